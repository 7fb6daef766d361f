/- Stores: fires and fillings (of a valid store); drawn stores are valid. -/
import Derived.Test.YtonlfkofiljboaaShare
import Derived.Test.YtonlfkofiljboaaDrewK
namespace Go.Proofs.Ytonlfkofiljboaa
open Go.RowKit
set_option maxRecDepth 20000
set_option maxHeartbeats 800000 in
theorem Pour_v (x y n : Int) (w : World) (h1 : cisOk x y = true) (h2 : inB n 0 1000000 = true) :
    Calls Try.prog 66 #[.agg #[.int .i64 x, .int .i64 y], .int .i64 n] w fun e w' => e = .returned (.tuple #[.agg #[.int .i64 x, .int .i64 (y + min n (x - y))], .int .i64 (n - min n (x - y))]) ∧ ∃ o1 o2 o3 : Obj, w' = ((w.alloc o1).alloc o2).alloc o3 := by
  have hh := h1
  unfold cisOk inB at hh
  simp only [Bool.and_eq_true, decide_eq_true_eq] at hh
  obtain ⟨⟨a1, a2⟩, a3, a4⟩ := hh
  obtain ⟨n1, n2⟩ := inB_iff.1 h2
  by_cases hm : n ≤ x - y
  · have hmin : min n (x - y) = n := by omega
    rw [hmin]
    go_enter Try.func66, Try.ntmps66
    go_wp2_with (first | (go_at_call 54; refine (within_any _ _ _ _).mono ?_; rintro e w' ⟨rfl, rfl⟩) | (go_at_call 69; refine (CisternOk_any _ _ _).mono ?_; rintro e w1 ⟨rfl, o1, rfl⟩))
    exact bodyPost_ret (v := .tuple #[.agg #[.int .i64 x, .int .i64 (y + n)], .int .i64 (n - n)]) (by simp [results, Try.results66, go_sem, hmin]) rfl ⟨rfl, _, _, _, rfl⟩
  · have hmin : min n (x - y) = x - y := by omega
    rw [hmin]
    go_enter Try.func66, Try.ntmps66
    go_wp2_with (first | (go_at_call 54; refine (within_any _ _ _ _).mono ?_; rintro e w' ⟨rfl, rfl⟩) | (go_at_call 69; refine (CisternOk_any _ _ _).mono ?_; rintro e w1 ⟨rfl, o1, rfl⟩))
    exact bodyPost_ret (v := .tuple #[.agg #[.int .i64 x, .int .i64 (y + (x - y))], .int .i64 (n - (x - y))]) (by simp [results, Try.results66, go_sem, hmin]) rfl ⟨rfl, _, _, _, rfl⟩
theorem storeOk_parts {x y z : Int} (h : storeOk x y z = true) : cisOk x y = true ∧ 1 ≤ x ∧ x ≤ 1000000 ∧ 0 ≤ y ∧ y ≤ x ∧ 0 ≤ z ∧ z ≤ x := by
  have h0 := h
  unfold storeOk at h0
  unfold storeOk cisOk inB at h
  simp only [Bool.and_eq_true, decide_eq_true_eq] at h h0
  exact ⟨h0.1, by omega, by omega, by omega, by omega, by omega, by omega⟩
theorem storeOk_of {x y z : Int} (h : 1 ≤ x ∧ x ≤ 1000000 ∧ 0 ≤ y ∧ y ≤ x ∧ 0 ≤ z ∧ z ≤ x) : storeOk x y z = true := by
  unfold storeOk cisOk
  rw [inB_iff.2 ⟨by omega, by omega⟩, inB_iff.2 ⟨by omega, by omega⟩, inB_iff.2 ⟨by omega, by omega⟩]; rfl
set_option maxHeartbeats 800000 in
theorem FightFire_v (x y z n : Int) (w : World) (h1 : storeOk x y z = true) (h2 : inB n 0 1000000 = true) :
    Calls Try.prog 27 #[.agg #[.int .i64 x, .int .i64 y, .int .i64 z], .int .i64 n] w fun e w' => e = .returned (.tuple #[.agg #[.int .i64 x, .int .i64 (y - min n y), .int .i64 z], .int .i64 (min n y)]) ∧ Below w.heap.size w w' := by
  have e1 : takeOut x y n = (x, y - min n y, min n y) := by unfold takeOut; rw [(storeOk_parts h1).1, h2]; rfl
  have HT : Hid (∀ W, Calls Try.prog 65 #[.agg #[.int .i64 x, .int .i64 y], .int .i64 n] W fun e w' => e = .returned (.tuple #[.agg #[.int .i64 x, .int .i64 (y - min n y)], .int .i64 (min n y)]) ∧ ∃ o1 o2 o3 : Obj, w' = ((W.alloc o1).alloc o2).alloc o3) := fun W => by
    have := TakeOut_any x y n W
    rwa [e1] at this
  clear e1
  obtain ⟨m, hm⟩ : ∃ m, m = min n y := ⟨_, rfl⟩
  rw [← hm] at HT ⊢
  clear hm
  go_enter Try.func27, Try.ntmps27
  go_wp2_with (first | (go_at_call 30; refine (StoreOk_any _ _ _ _).mono ?_; rintro e w1 ⟨rfl, o1, o2, rfl⟩) | (go_at_call 54; refine (within_any _ _ _ _).mono ?_; rintro e w' ⟨rfl, rfl⟩) | (go_at_call 65; refine (HT.out _).mono ?_; rintro e w1 ⟨rfl, o6, o7, o8, rfl⟩))
  exact bodyPost_ret (v := .tuple #[.agg #[.int .i64 x, .int .i64 (y - m), .int .i64 z], .int .i64 m]) (by simp [results, Try.results27, go_sem]) rfl ⟨rfl, by repeat' (first | (with_reducible exact Below.refl _ _) | (with_reducible assumption) | (with_reducible refine Below.alloc ?_ ?_ _) | (with_reducible refine Below.setCell ?_ ?_ _) | (with_reducible refine Below.drew ?_) | (with_reducible refine below_drewN ?_ _) | (refine Below.trans ?_ (Below.mono (by with_reducible assumption) ?_)) | omega | (simp; done) | (simp; omega))⟩
set_option maxHeartbeats 800000 in
theorem FillStore_v (x y z n : Int) (w : World) (h1 : storeOk x y z = true) (h2 : inB n 0 1000000 = true) :
    Calls Try.prog 28 #[.agg #[.int .i64 x, .int .i64 y, .int .i64 z], .int .i64 n] w fun e w' => e = .returned (.tuple #[.agg #[.int .i64 x, .int .i64 (y + min n (x - y)), .int .i64 z], .int .i64 (n - min n (x - y))]) ∧ Below w.heap.size w w' := by
  have HT := Lib.hid (fun W => Pour_v x y n W (storeOk_parts h1).1 h2)
  obtain ⟨m, hm⟩ : ∃ m, m = min n (x - y) := ⟨_, rfl⟩
  rw [← hm] at HT ⊢
  clear hm
  go_enter Try.func28, Try.ntmps28
  go_wp2_with (first | (go_at_call 30; refine (StoreOk_any _ _ _ _).mono ?_; rintro e w1 ⟨rfl, o1, o2, rfl⟩) | (go_at_call 54; refine (within_any _ _ _ _).mono ?_; rintro e w' ⟨rfl, rfl⟩) | (go_at_call 66; refine (HT.out _).mono ?_; rintro e w1 ⟨rfl, o6, o7, o8, rfl⟩))
  exact bodyPost_ret (v := .tuple #[.agg #[.int .i64 x, .int .i64 (y + m), .int .i64 z], .int .i64 (n - m)]) (by simp [results, Try.results28, go_sem]) rfl ⟨rfl, by repeat' (first | (with_reducible exact Below.refl _ _) | (with_reducible assumption) | (with_reducible refine Below.alloc ?_ ?_ _) | (with_reducible refine Below.setCell ?_ ?_ _) | (with_reducible refine Below.drew ?_) | (with_reducible refine below_drewN ?_ _) | (refine Below.trans ?_ (Below.mono (by with_reducible assumption) ?_)) | omega | (simp; done) | (simp; omega))⟩
set_option maxHeartbeats 800000 in
theorem l04Cistern_any (p : Nat) (w : World) (h : Cur w p) :
    Calls Try.prog 96 #[.pointer (some ⟨p, 0, none⟩)] w fun e w' => ∃ r v : Int, e = .returned (.agg #[.int .i64 r, .int .i64 v]) ∧ 1 ≤ r ∧ r ≤ 250 ∧ 0 ≤ v ∧ v ≤ r ∧ Drew p w w' := by
  have hpl := h.lt
  have D0 : Hid (Drew p w (w.alloc (.cells #[.int .i64 0, .int .i64 0] 48))) := (Drew.here h).alloc _
  have K0 := Lib.hid (Blk.new w 48 #[.int .i64 0, .int .i64 0])
  have hne : w.heap.size ≠ p := by omega
  go_enter Try.func96, Try.ntmps96
  go_wp2_with fail
  refine (l01Below_any p 250 _ D0.out.1 (by omega)).mono ?_
  rintro e w1 ⟨r, rfl, r0, r1, _, hd⟩
  replace r1 := r1 (by omega)
  have K1 := Lib.hid (hd.blk K0.out hne)
  have D1 := Lib.hid (D0.out.trans hd)
  clear hd D0 K0
  go_wp2_with fail
  refine (l01Below_any p (1 + r + 1) w1 D1.out.1 (by omega)).mono ?_
  rintro e w2 ⟨v, rfl, v0, v1, _, hd⟩
  replace v1 := v1 (by omega)
  have kb2 := hd.blk K1.out hne
  have D2 := Lib.hid (D1.out.trans hd)
  have kc := kb2.cells
  have kf := kb2.frozens
  have hl2 := kb2.lt
  clear hd
  go_wp2_with fail
  refine bodyPost_ret (v := .agg #[.int .i64 (1 + r), .int .i64 v]) (by simp [results, Try.results96, go_sem, kc, hl2]) rfl ⟨1 + r, v, rfl, by omega, by omega, v0, by omega, ?_⟩
  repeat' (first | exact D2.out | (refine Drew.store ?_ hpl (Nat.le_refl _) _ _))
set_option maxHeartbeats 800000 in
theorem l33Store_any (p : Nat) (w : World) (h : Cur w p) :
    Calls Try.prog 64 #[.pointer (some ⟨p, 0, none⟩)] w fun e w' => ∃ r v z : Int, e = .returned (.agg #[.int .i64 r, .int .i64 v, .int .i64 z]) ∧ storeOk r v z = true ∧ r ≤ 250 ∧ Drew p w w' := by
  have hpl := h.lt
  have D0 : Hid (Drew p w (w.alloc (.cells #[.int .i64 0, .int .i64 0, .int .i64 0] 50))) := (Drew.here h).alloc _
  have K0 := Lib.hid (Blk.new w 50 #[.int .i64 0, .int .i64 0, .int .i64 0])
  have hne : w.heap.size ≠ p := by omega
  go_enter Try.func64, Try.ntmps64
  go_wp2_with fail
  refine (l04Cistern_any p _ D0.out.1).mono ?_
  rintro e w1 ⟨r, v, rfl, r0, r1, v0, v1, hd⟩
  have K1 := Lib.hid (hd.blk K0.out hne)
  have D1 := Lib.hid (D0.out.trans hd)
  clear hd D0 K0
  go_wp2_with fail
  first | refine name_world ?_ | refine name_wp ?_
  intro W1 hW
  have D1' : Hid (Drew p w W1) := by show Drew p w W1; rw [hW]; repeat' (first | exact D1.out | (refine Drew.alloc ?_ _) | (refine Drew.store ?_ hpl (by have := K1.out.lt; omega) _ _))
  have K1' : Hid (Blk W1 w.heap.size 50 #[.int .i64 0, .int .i64 0, .int .i64 0]) := by have := K1.out; show Blk _ _ _ _; rw [hW]; repeat' (first | (with_reducible assumption) | (with_reducible refine Blk.drew ?_) | (with_reducible refine Blk.drewN ?_ _) | (with_reducible refine Blk.new' _ _ _ _ ?_; (first | rfl | omega | (simp; done))) | (with_reducible exact Blk.new _ _ _) | (with_reducible refine Blk.alloc ?_ _) | (with_reducible apply Blk.set8) | (with_reducible apply Blk.set7of8) | (with_reducible apply Blk.setlast8) | (with_reducible apply Blk.set7) | (with_reducible apply Blk.set2) | (with_reducible apply Blk.set3) | (with_reducible refine Blk.far ?_ ?_ _) | (simp; done) | (simp; omega) | (dsimp only; omega))
  have B1 : Hid (Blk W1 w1.heap.size 48 #[.int .i64 r, .int .i64 v]) := by show Blk _ _ _ _; rw [hW]; repeat' (first | (with_reducible assumption) | (with_reducible refine Blk.drew ?_) | (with_reducible refine Blk.drewN ?_ _) | (with_reducible refine Blk.new' _ _ _ _ ?_; (first | rfl | omega | (simp; done))) | (with_reducible exact Blk.new _ _ _) | (with_reducible refine Blk.alloc ?_ _) | (with_reducible apply Blk.set8) | (with_reducible apply Blk.set7of8) | (with_reducible apply Blk.setlast8) | (with_reducible apply Blk.set7) | (with_reducible apply Blk.set2) | (with_reducible apply Blk.set3) | (with_reducible refine Blk.far ?_ ?_ _) | (simp; done) | (simp; omega) | (dsimp only; omega))
  have hne1 : w1.heap.size ≠ p := by have := D1.out.2.size; omega
  clear hW
  have hc0 : W1.cell? ⟨w1.heap.size, 0, none⟩ = some (.int .i64 r) := B1.out.cell 0
  have hc1 : W1.cell? ⟨w1.heap.size, 1, none⟩ = some (.int .i64 v) := B1.out.cell 1
  have hlw : w1.heap.size < W1.heap.size := B1.out.lt
  have hn12 : w.heap.size ≠ w1.heap.size := by have := K1.out.lt; omega
  have hwr : IntKind.i64.wrap (r + 1) = r + 1 := IntWalk.i64_in _ (by omega)
  have hr9 : r + 1 ≤ 1000000000 := by omega
  go_region_held3 (fun w' => w'.cell? ⟨w1.heap.size, 0, none⟩ = some (.int .i64 r) ∧ w'.cell? ⟨w1.heap.size, 1, none⟩ = some (.int .i64 v)) (first | exact ⟨hc0, hc1⟩ | exact ⟨y0, y1⟩ | (refine ⟨?_, ?_⟩ <;> simp [go_sem, y0, y1, hn12]; done))
    ((first | (go_at_call 92; (try rw [hwr]); refine (l01Below_any p (r + 1) W1.drew D1'.out.1.drew hr9).mono ?_; rintro e w2 ⟨z, rfl, z0, z1, z2, hd0⟩; replace z1 := z1 (by omega); have hd := hd0.of_drew; have kb2 := hd.blk K1'.out hne; have D2 := Lib.hid (D1'.out.trans hd); have y0 : w2.cell? ⟨w1.heap.size, 0, none⟩ = some (.int .i64 r) := (hd.blk B1.out hne1).cell 0; have y1 : w2.cell? ⟨w1.heap.size, 1, none⟩ = some (.int .i64 v) := (hd.blk B1.out hne1).cell 1; have kc := kb2.cells; have kf := kb2.frozens; have hl2 := kb2.lt; clear hd hd0)))
  all_goals
    go_wp2_with fail
    refine bodyPost_ret (v := .agg #[.int .i64 r, .int .i64 v, .int .i64 z]) (by simp [results, Try.results64, go_sem, kc, hl2]) rfl ⟨r, v, z, rfl, storeOk_of (by omega), by omega, ?_⟩
    repeat' (first | (with_reducible exact D2.out) | (with_reducible refine Drew.store ?_ hpl (Nat.le_refl _) _ _))
theorem DrawStore_any (A : Option Addr) (c : Nat) (l : List Int) (w : World) (h : RdY w w.heap.size A c l) (hs : l.length ≤ 1048576) :
    Calls Try.prog 24 #[.slice A l.length c] w fun e w' => ∃ r v z : Int, e = .returned (.agg #[.int .i64 r, .int .i64 v, .int .i64 z]) ∧ storeOk r v z = true ∧ r ≤ 250 ∧ Below w.heap.size w w' := by
  have D0 : Hid (Below w.heap.size w (w.alloc (.cells #[.int .i64 0, .int .i64 0, .int .i64 0] 50))) := Below.alloc (Below.refl _ _) (Nat.le_refl _) _
  have K0 := Lib.hid (Blk.new w 50 #[.int .i64 0, .int .i64 0, .int .i64 0])
  have h0 : Hid (RdY (w.alloc (.cells #[.int .i64 0, .int .i64 0, .int .i64 0] 50)) (w.alloc (.cells #[.int .i64 0, .int .i64 0, .int .i64 0] 50)).heap.size A c l) := RdY.below h D0.out
  go_enter Try.func24, Try.ntmps24
  go_wp2_with fail
  refine (l01New_any A c l _ h0.out hs).mono ?_
  rintro e w1 ⟨p, rfl, hp, hc, hb⟩
  have hpw : w.heap.size < p := by simp at hp; omega
  have K1 := Lib.hid (K0.out.below hb (by simp))
  have B1 : Hid (Below w.heap.size w w1) := D0.out.trans (hb.mono (by simp))
  have HC := Lib.hid hc
  clear hc hb D0 K0 h0 hp
  go_wp2_with fail
  refine (l33Store_any p w1 HC.out).mono ?_
  rintro e w2 ⟨r, v, z, rfl, hok, hr, hd⟩
  have kb2 := hd.blk K1.out (by omega)
  have B2 : Hid (Below w.heap.size w w2) := B1.out.grown hd.2 B1.out.size (fun k hk => by have := Option.some.inj hk; omega)
  have kc := kb2.cells
  have kf := kb2.frozens
  have hl2 := kb2.lt
  clear hd
  have hB := B2.out
  go_wp2_with fail
  exact bodyPost_ret (v := .agg #[.int .i64 r, .int .i64 v, .int .i64 z]) (by simp [results, Try.results24, go_sem, kc, hl2]) rfl ⟨r, v, z, rfl, hok, hr, by repeat' (first | (with_reducible exact Below.refl _ _) | (with_reducible assumption) | (with_reducible refine Below.alloc ?_ ?_ _) | (with_reducible refine Below.setCell ?_ ?_ _) | (with_reducible refine Below.drew ?_) | (with_reducible refine below_drewN ?_ _) | (refine Below.trans ?_ (Below.mono (by with_reducible assumption) ?_)) | omega | (simp; done) | (simp; omega))⟩
end Go.Proofs.Ytonlfkofiljboaa
