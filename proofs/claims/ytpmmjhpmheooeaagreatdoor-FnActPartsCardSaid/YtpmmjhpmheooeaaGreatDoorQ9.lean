/- Texts of the proof, joined: BookDraw, Rights. -/
import Derived.Test.YtpmmjhpmheooeaaGreatDoorQ8
import Derived.Deep.RegionWith
import Derived.Test.YtpmmjhpmheooeaaGreatDoorQ7
namespace Go.Proofs.YtpmmjhpmheooeaaGreatDoor
set_option linter.unusedSimpArgs false
set_option linter.unusedVariables false
section
open Go.RowKit
set_option maxRecDepth 20000
/-- What a drawn book is. -/
def BkD (b : Bk) (n : Nat) : Prop := bookOk b = true ∧ b.evs.length ≤ n ∧ (∀ e ∈ b.evs, e.x = 2 → 1 ≤ e.z ∧ e.z ≤ 4) ∧ 50 ≤ b.room ∧ b.room ≤ 249
theorem book_new {room start : Int} (h1 : 1 ≤ room) (h2 : room ≤ 1000000) (h3 : 0 ≤ start) (h4 : start ≤ room) : bookOk ⟨room, start, [], start, 0, 0, 0⟩ = true := by
 rw [bookOk_eq (b := ⟨room, start, [], start, 0, 0, 0⟩) (countBk_yes (inB_iff.2 ⟨h1, h2⟩) (inB_iff.2 ⟨h3, h4⟩) (by simp))]
 simp
theorem bkD_enter {b : Bk} {n : Nat} {x y z : Int} (h : BkD b n) (hn : n < 40) (he : EvD x y z) : BkD (enter b ⟨x, y, z⟩).1 (n + 1) := by
 obtain ⟨h1, h2, h3, h4, h5⟩ := h
 cases hok : (evOn b.level b.room x y z).2.2.2.2
 ·rw [enter_book h1 ⟨x, y, z⟩ (by omega), hok]
  exact ⟨h1, by show b.evs.length ≤ n + 1; omega, h3, h4, h5⟩
 ·have h6 := enter_ok h1 ⟨x, y, z⟩ (by omega) hok
  rw [enter_book h1 ⟨x, y, z⟩ (by omega), hok] at h6 ⊢
  refine ⟨h6, by simp; omega, ?_, h4, h5⟩
  intro e hm hx
  rcases List.mem_append.1 hm with hm | hm
  ·exact h3 e hm hx
  ·simp at hm
   subst hm
   simp only at hx ⊢
   unfold EvD at he
   omega
set_option maxHeartbeats 6400000 in
theorem l37Book_any (p : Nat) (w : World) (h : Cur w p) :
  Calls Tryz.prog 95 #[.pointer (some ⟨p, 0, none⟩)] w fun e w' => ∃ (A : Option Addr) (c : Nat) (b : Bk), e = .returned (b.val A c) ∧ BkD b 7 ∧ w'.ownsRow w.heap.size 120 3 (.slice A b.evs.length c) b.evs.length (t3s b.evs) ∧ Drew p w w' := by
 have hpl := h.lt
 have D0 : Hid (Drew p w (w.alloc (.cells #[.int .i64 0, .int .i64 0, .slice none 0 0, .int .i64 0, .int .i64 0, .int .i64 0, .int .i64 0] 32))) := (Drew.here h).alloc _
 have K0 := Lib.hid (Blk.new w 32 #[.int .i64 0, .int .i64 0, .slice none 0 0, .int .i64 0, .int .i64 0, .int .i64 0, .int .i64 0])
 have hne : w.heap.size ≠ p := by omega
 go_enter Tryz.func95, Tryz.ntmps95
 go_wp2_with fail
 refine (l01Below_any p 200 _ D0.out.1 (by omega)).mono ?_
 rintro e w1 ⟨x, rfl, x0, x1, _, hd⟩
 replace x1 := x1 (by omega)
 have K1 := Lib.hid (hd.blk K0.out hne)
 have D1 := Lib.hid (D0.out.trans hd)
 have hs1 : w.heap.size < w1.heap.size := K1.out.lt
 clear hd K0 D0
 go_wp2_with fail
 first | refine name_world ?_ | refine name_wp ?_
 intro W1 hW
 have D1' : Hid (Drew p w W1) := by show Drew p w W1; rw [hW]; repeat' (first | exact D1.out | (refine Drew.alloc ?_ _) | (refine Drew.store ?_ hpl (by omega) _ _))
 have K1' : Hid (Blk W1 w.heap.size 32 #[.int .i64 0, .int .i64 0, .slice none 0 0, .int .i64 0, .int .i64 0, .int .i64 0, .int .i64 0]) := by have := K1.out; show Blk _ _ _ _; rw [hW]; exact blkT
 have B1 : Hid (Blk W1 w1.heap.size 32 #[.int .i64 (50 + x), .int .i64 0, .slice none 0 0, .int .i64 0, .int .i64 0, .int .i64 0, .int .i64 0]) := by show Blk _ _ _ _; rw [hW]; exact blkT
 clear hW
 have hne1 : w1.heap.size ≠ p := by omega
 refine (l01Below_any p (50 + x + 1) W1 D1'.out.1 (by omega)).mono ?_
 rintro e w2 ⟨s, rfl, s0, s1, _, hd⟩
 replace s1 := s1 (by omega)
 have K2 := Lib.hid (hd.blk K1'.out hne)
 have kb2 := hd.blk B1.out hne1
 have D2 := Lib.hid (D1'.out.trans hd)
 have kc := kb2.cells
 have kf := kb2.frozens
 have hl2 := kb2.lt
 clear hd K1' D1' B1 K1 D1
 go_wp2_with fail
 first | refine name_world ?_ | refine name_wp ?_
 intro W2 hW
 have D2' : Hid (Drew p w W2) := by show Drew p w W2; rw [hW]; repeat' (first | exact D2.out | (refine Drew.alloc ?_ _) | (refine Drew.store ?_ hpl (by omega) _ _))
 have K2' : Hid (Blk W2 w.heap.size 32 #[.int .i64 0, .int .i64 0, .slice none 0 0, .int .i64 0, .int .i64 0, .int .i64 0, .int .i64 0]) := by have := K2.out; show Blk _ _ _ _; rw [hW]; exact blkT
 have B2 : Hid (Blk W2 w1.heap.size 32 #[.int .i64 (50 + x), .int .i64 s, .slice none 0 0, .int .i64 s, .int .i64 0, .int .i64 0, .int .i64 0]) := by show Blk _ _ _ _; rw [hW]; simpa using (kb2.set_ 1 (.int .i64 s)).set_ 3 (.int .i64 s)
 clear hW kc kf kb2 K2 D2
 refine (l01Below_any p 8 W2 D2'.out.1 (by omega)).mono ?_
 rintro e w3 ⟨m, rfl, m0, m1, _, hd⟩
 replace m1 := m1 (by omega)
 have K3 := Lib.hid (hd.blk K2'.out hne)
 have B3 := Lib.hid (hd.blk B2.out hne1)
 have D3 := Lib.hid (D2'.out.trans hd)
 have hBK : Hid (BkD ⟨50 + x, s, [], s, 0, 0, 0⟩ 0) := ⟨book_new (by omega) (by omega) s0 (by omega), Nat.le_refl _, by simp, by show 50 ≤ 50 + x; omega, by show 50 + x ≤ 249; omega⟩
 clear hd K2' D2' B2
 obtain ⟨mn, rfl⟩ := Int.eq_ofNat_of_zero_le m0
 have hs3 : w1.heap.size < w3.heap.size := B3.out.lt
 go_wp2_with fail
 go_loopw [4] (fun i wr => ∃ (k : Nat) (A : Option Addr) (c : Nat) (b : Bk), k ≤ mn ∧ i = .int .i64 k ∧ Hid (Drew p w wr) ∧ Hid (Blk wr w.heap.size 32 #[.int .i64 0, .int .i64 0, .slice none 0 0, .int .i64 0, .int .i64 0, .int .i64 0, .int .i64 0]) ∧ Hid (Blk wr w1.heap.size 32 #[.int .i64 b.room, .int .i64 b.start, .slice A b.evs.length c, .int .i64 b.level, .int .i64 b.rained, .int .i64 b.drunk, .int .i64 b.lost]) ∧ Hid (wr.ownsRow w.heap.size 120 3 (.slice A b.evs.length c) b.evs.length (t3s b.evs)) ∧ Hid (BkD b (mn - k))) (fun i _ => (intOf i).toNat)
 case atStart => exact ⟨mn, none, 0, ⟨50 + x, s, [], s, 0, 0, 0⟩, Nat.le_refl _, rfl, D3, K3, B3, World.ownsRow_nil _ _ _ _, by rw [Nat.sub_self]; exact hBK⟩
 case round =>
  obtain ⟨k, A, c, b, hk, rfl, HD, HK, HB, HO, HQ⟩ := hrel
  clear K3 B3 D3 hBK
  have hsr : w1.heap.size < wr.heap.size := HB.out.lt
  cases k with
  |zero =>
   have kc := HB.out.cells
   have kcr := HK.out.cells
   have kfr := HK.out.frozens
   have hlr := HK.out.lt
   go_wp2_with fail
   refine bodyPost_ret (v := b.val A c) (by unfold Bk.val; simp [results, Tryz.results95, go_sem, kcr, hlr]) rfl ⟨A, c, b, rfl, ?_, ?_, ?_⟩
   ·obtain ⟨q1, q2, q3⟩ := HQ.out; exact ⟨q1, by omega, q3⟩
   ·exact own_set7 HO.out HK.out (by decide) _ _ _ _ _ _ _
   ·repeat' (first | (with_reducible exact HD.out) | (with_reducible refine Drew.store ?_ hpl (Nat.le_refl _) _ _))
  |succ k =>
   have HSP : Hid (∀ W, Drew p wr W → Blk W w.heap.size 32 #[.int .i64 0, .int .i64 0, .slice none 0 0, .int .i64 0, .int .i64 0, .int .i64 0, .int .i64 0] ∧ Blk W w1.heap.size 32 #[.int .i64 b.room, .int .i64 b.start, .slice A b.evs.length c, .int .i64 b.level, .int .i64 b.rained, .int .i64 b.drunk, .int .i64 b.lost] ∧ RdT W W.heap.size A c b.evs ∧ Drew p w W) := fun W hd => ⟨hd.blk HK.out hne, hd.blk HB.out hne1, Rd.of_own (hd.rd HO.out hpl), HD.out.trans hd⟩
   have hk1 : (0 : Int) < ((k + 1 : Nat) : Int) := by omega
   have hlen : b.evs.length ≤ 1048576 := by have := HQ.out.2.1; omega
   have hc0 : wr.cell? ⟨w1.heap.size, 0, none⟩ = some (.int .i64 b.room) := HB.out.cell 0
   have hc1 : wr.cell? ⟨w1.heap.size, 1, none⟩ = some (.int .i64 b.start) := HB.out.cell 1
   have hc2 : wr.cell? ⟨w1.heap.size, 2, none⟩ = some (.slice A b.evs.length c) := HB.out.cell 2
   have hc3 : wr.cell? ⟨w1.heap.size, 3, none⟩ = some (.int .i64 b.level) := HB.out.cell 3
   have hc4 : wr.cell? ⟨w1.heap.size, 4, none⟩ = some (.int .i64 b.rained) := HB.out.cell 4
   have hc5 : wr.cell? ⟨w1.heap.size, 5, none⟩ = some (.int .i64 b.drunk) := HB.out.cell 5
   have hc6 : wr.cell? ⟨w1.heap.size, 6, none⟩ = some (.int .i64 b.lost) := HB.out.cell 6
   have HC := Lib.hid HD.out.1
   have HE : Hid (∀ (W : World) (x y z : Int), EvD x y z → RdT W W.heap.size A c b.evs → Calls Tryz.prog 121 #[.agg #[.int .i64 b.room, .int .i64 b.start, .slice A b.evs.length c, .int .i64 b.level, .int .i64 b.rained, .int .i64 b.drunk, .int .i64 b.lost], .agg #[.int .i64 x, .int .i64 y, .int .i64 z]] W fun e w' => ∃ (b2 : Bk) (ok : Bool) (A' : Option Addr) (c' : Nat), e = .returned (.tuple #[.agg #[.int .i64 b2.room, .int .i64 b2.start, .slice A' b2.evs.length c', .int .i64 b2.level, .int .i64 b2.rained, .int .i64 b2.drunk, .int .i64 b2.lost], .bool ok]) ∧ BkD b2 (mn - k) ∧ w'.ownsRow W.heap.size 120 3 (.slice A' b2.evs.length c') b2.evs.length (t3s b2.evs) ∧ Below W.heap.size W w') := fun W x y z hev hr =>
    (EnterS_any A c b x y z W hr hlen).mono fun e w' ⟨A', c', h1, h2, h3⟩ => ⟨_, _, A', c', h1, by
     have := bkD_enter HQ.out (by omega) hev
     rwa [show mn - (k + 1) + 1 = mn - k by omega] at this, h2, h3⟩
   go_wp2_with fail
   go_region_with (first | (go_at_call 122; refine (l37Event_any p wr.drew HC.out.drew).mono ?_; rintro e w4 ⟨ex, ey, ez, rfl, hev, hd⟩; have H4 := Lib.hid (HSP.out w4 hd.of_drew); have HEV := Lib.hid hev; clear hd hev; have y4_0 : w4.cell? ⟨w1.heap.size, 0, none⟩ = some (.int .i64 b.room) := H4.out.2.1.cell 0; have y4_1 : w4.cell? ⟨w1.heap.size, 1, none⟩ = some (.int .i64 b.start) := H4.out.2.1.cell 1; have y4_2 : w4.cell? ⟨w1.heap.size, 2, none⟩ = some (.slice A b.evs.length c) := H4.out.2.1.cell 2; have y4_3 : w4.cell? ⟨w1.heap.size, 3, none⟩ = some (.int .i64 b.level) := H4.out.2.1.cell 3; have y4_4 : w4.cell? ⟨w1.heap.size, 4, none⟩ = some (.int .i64 b.rained) := H4.out.2.1.cell 4; have y4_5 : w4.cell? ⟨w1.heap.size, 5, none⟩ = some (.int .i64 b.drunk) := H4.out.2.1.cell 5; have y4_6 : w4.cell? ⟨w1.heap.size, 6, none⟩ = some (.int .i64 b.lost) := H4.out.2.1.cell 6) | (go_at_call 121; refine (HE.out w4 ex ey ez HEV.out H4.out.2.2.1).mono ?_; rintro e w5 ⟨b2, ok2, A5, c5, rfl, hq5, ho5, hb5⟩; have H5 := Lib.hid (And.intro ho5 hb5); have HQ5 := Lib.hid hq5; clear ho5 hb5 hq5; have kb5 := H4.out.2.1.below H5.out.2 H4.out.2.1.lt; have kf5 := kb5.frozens; have hl5 := kb5.lt; have y5_0 : w5.cell? ⟨w1.heap.size, 0, none⟩ = some (.int .i64 b.room) := kb5.cell 0; have y5_1 : w5.cell? ⟨w1.heap.size, 1, none⟩ = some (.int .i64 b.start) := kb5.cell 1; have y5_2 : w5.cell? ⟨w1.heap.size, 2, none⟩ = some (.slice A b.evs.length c) := kb5.cell 2; have y5_3 : w5.cell? ⟨w1.heap.size, 3, none⟩ = some (.int .i64 b.level) := kb5.cell 3; have y5_4 : w5.cell? ⟨w1.heap.size, 4, none⟩ = some (.int .i64 b.rained) := kb5.cell 4; have y5_5 : w5.cell? ⟨w1.heap.size, 5, none⟩ = some (.int .i64 b.drunk) := kb5.cell 5; have y5_6 : w5.cell? ⟨w1.heap.size, 6, none⟩ = some (.int .i64 b.lost) := kb5.cell 6))
   all_goals
    have HF := Lib.hid (H4.out.2.2.2.below H5.out.2 (Nat.le_refl _))
    have hz4 : w.heap.size ≤ w4.heap.size := H4.out.2.2.2.size
    go_wp2_with fail
    go_roundw
    case rel =>
     refine ⟨k, A5, c5, b2, by omega, by go_num, ?_, ?_, ?_, ?_, HQ5.out⟩
     ·show Drew p w _
      repeat' (first | (with_reducible exact HF.out) | (with_reducible refine Drew.store ?_ hpl (by omega) _ _))
     ·have kk := H4.out.1.below H5.out.2 H4.out.1.lt
      show Blk _ _ _ _
      repeat' (first | (with_reducible assumption) | (with_reducible refine Blk.drew ?_) | (with_reducible refine Blk.drewN ?_ _) | (with_reducible refine Blk.new' _ _ _ _ ?_; (first | rfl | omega | (simp; done))) | (with_reducible exact Blk.new _ _ _) | (with_reducible refine Blk.alloc ?_ _) | (with_reducible apply Blk.set8) | (with_reducible apply Blk.set7of8) | (with_reducible apply Blk.setlast8) | (with_reducible apply Blk.set7) | (with_reducible apply Blk.set2) | (with_reducible apply Blk.set3) | (with_reducible refine Blk.far ?_ ?_ _) | (simp; done) | (simp; omega) | (dsimp only; omega))
     ·exact blk_set7 kb5 _ _ _ _ _ _ _
     ·exact own_set7 (own_mono H5.out.1 hz4) kb5 (by decide) _ _ _ _ _ _ _
    case measure => simp [intOf]
end
section
open Go.RowKit
/-- top, bottom, ok of a sum of shares (z: bottom, y: top, x: owner) -/
def sumF : List T3 → Int → Int → Int × Int × Bool
 | [], t, b => (t, b, true)
 |e :: es, t, b => if (addF t b e.y e.z).2.2 then sumF es (addF t b e.y e.z).1 (addF t b e.y e.z).2.1 else (0, 0, false)
theorem sumF_nil (t b : Int) : sumF [] t b = (t, b, true) := rfl
theorem sumF_yes {e : T3} {es : List T3} {t b t' b' : Int} (h : addF t b e.y e.z = (t', b', true)) : sumF (e :: es) t b = sumF es t' b' := by
 show (if (addF t b e.y e.z).2.2 then sumF es (addF t b e.y e.z).1 (addF t b e.y e.z).2.1 else (0, 0, false)) = _
 rw [h]; rfl
theorem sumF_no {e : T3} {es : List T3} {t b t' b' : Int} (h : addF t b e.y e.z = (t', b', false)) : sumF (e :: es) t b = (0, 0, false) := by
 show (if (addF t b e.y e.z).2.2 then sumF es (addF t b e.y e.z).1 (addF t b e.y e.z).2.1 else (0, 0, false)) = _
 rw [h]; rfl
def sumShares (l : List T3) : Int × Int × Bool := if l.length ≤ 12 then sumF l 0 1 else (0, 0, false)
set_option maxHeartbeats 800000 in
theorem SumOfShares_any (A : Option Addr) (c : Nat) (l : List T3) (w : World) (h : RdT w w.heap.size A c l) :
  Calls Tryz.prog 100 #[.slice A l.length c] w fun e w' => e = frRet (sumShares l) ∧ Below w.heap.size w w' := by
 obtain ⟨hl, hm⟩ := h.le
 have hB := Below.refl w.heap.size w
 by_cases h12 : (12 : Int) < l.length
 ·have HE : Hid (sumShares l = (0, 0, false)) := by unfold sumShares; rw [if_neg (by omega)]; rfl
  go_enter Tryz.func100, Tryz.ntmps100
  go_wp2_with fail
  refine bodyPost_ret (v := .tuple #[.agg #[.int .i64 0, .int .i64 0], .bool false]) ?_ rfl ?_
  ·simp [results, Tryz.results100, go_sem]
  ·exact ⟨by rw [HE.out]; rfl, by exact tacT⟩
 have e0 : sumShares l = sumF l 0 1 := by unfold sumShares; rw [if_pos (by omega)]
 obtain ⟨R, hR⟩ : ∃ R, R = sumF l 0 1 := ⟨_, rfl⟩
 have HR := Lib.hid hR
 have HE : Hid (sumShares l = R) := e0.trans hR.symm
 clear e0 hR
 go_enter Tryz.func100, Tryz.ntmps100
 go_wp2_with fail
 go_loopw [15] (fun i wr => ∃ (k : Nat) (t b : Int), k ≤ l.length ∧ i = .int .i64 k ∧ Blk wr w.heap.size 67 #[.int .i64 0, .int .i64 0] ∧ Blk wr (w.heap.size + 1) 67 #[.int .i64 t, .int .i64 b] ∧ Below w.heap.size w wr ∧ Hid (sumF (l.drop k) t b = R)) (fun i _ => l.length - (intOf i).toNat)
 case atStart => exact ⟨0, 0, 1, Nat.zero_le _, rfl, by exact blkT, by exact blkT, by exact tacT, HR.out.symm⟩
 case round =>
  obtain ⟨k, t, b, hk, rfl, kb_r, kb_s, hB, HS⟩ := hrel
  have kc_r := kb_r.cells
  have kf_r := kb_r.frozens
  have kc_s := kb_s.cells
  have kf_s := kb_s.frozens
  have hl_r := kb_r.lt
  have hl_s := kb_s.lt
  by_cases hlt : k < l.length
  ·obtain ⟨bb, o, x, rfl, hbb, hx, e0, e1, e2⟩ := h.at_ hlt
   have f0 : wr.cell? ⟨bb, o + k * 3, none⟩ = some (.int .i64 x.x) := (hB.cell (p := ⟨bb, _, none⟩) hbb).trans e0
   have f1 : wr.cell? ⟨bb, o + k * 3 + 1, none⟩ = some (.int .i64 x.y) := (hB.cell (p := ⟨bb, _, none⟩) hbb).trans e1
   have f2 : wr.cell? ⟨bb, o + k * 3 + 2, none⟩ = some (.int .i64 x.z) := (hB.cell (p := ⟨bb, _, none⟩) hbb).trans e2
   clear e0 e1 e2
   obtain ⟨t', b', ok, ha⟩ : ∃ t' b' ok, addF t b x.y x.z = (t', b', ok) := ⟨_, _, _, rfl⟩
   have HC : Hid (∀ W, Calls Tryz.prog 126 #[.agg #[.int .i64 t, .int .i64 b], .agg #[.int .i64 x.y, .int .i64 x.z]] W fun e w' => e = frRet (t', b', ok) ∧ Below W.heap.size W w') := fun W => by rw [← ha]; exact AddFractions_any _ _ _ _ W
   cases ok
   ·have HN : Hid (R = (0, 0, false)) := by rw [← HS.out, drop_cons hx, sumF_no ha]; rfl
    clear ha hx HS
    go_wp2_with fail
    first | refine name_world ?_ | refine name_wp ?_
    intro W1 hW
    replace hB : Below w.heap.size w W1 := by rw [hW]; exact tacT
    have hz_W1 : wr.heap.size ≤ W1.heap.size := by rw [hW]; exact sT
    replace kb_r : Blk W1 (w.heap.size) 67 #[.int .i64 0, .int .i64 0] := by rw [hW]; exact blkT
    have hLW1_r := kb_r.lt
    replace kb_s : Blk W1 (w.heap.size + 1) 67 #[.int .i64 t, .int .i64 b] := by rw [hW]; exact blkT
    have hLW1_s := kb_s.lt
    try clear kc_r kf_r
    try clear kc_s kf_s
    clear hW
    refine (HC.out _).mono ?_
    rintro e w1 ⟨rfl, hb⟩
    unfold frRet
    replace hB := hB.trans (Below.mono hb hB.size)
    have hz_w1 : W1.heap.size ≤ w1.heap.size := Below.size hb
    replace kb_r := kb_r.mv hb; obtain ⟨kb_r, kc_r, kf_r, hl_r, hn_r⟩ := kb_r
    replace kb_s := kb_s.mv hb; obtain ⟨kb_s, kc_s, kf_s, hl_s, hn_s⟩ := kb_s
    clear hb
    go_wp2_with fail
    refine bodyPost_ret (v := .tuple #[.agg #[.int .i64 0, .int .i64 0], .bool false]) ?_ rfl ?_
    ·simp [results, Tryz.results100, go_sem, kc_r, kc_s]
    ·exact ⟨by rw [HE.out, HN.out]; rfl, by exact tacT⟩
   ·have HN : Hid (sumF (l.drop (k + 1)) t' b' = R) := by rw [← HS.out, drop_cons hx, sumF_yes ha]; rfl
    clear ha hx HS
    go_wp2_with fail
    first | refine name_world ?_ | refine name_wp ?_
    intro W1 hW
    replace hB : Below w.heap.size w W1 := by rw [hW]; exact tacT
    have hz_W1 : wr.heap.size ≤ W1.heap.size := by rw [hW]; exact sT
    replace kb_r : Blk W1 (w.heap.size) 67 #[.int .i64 0, .int .i64 0] := by rw [hW]; exact blkT
    have hLW1_r := kb_r.lt
    replace kb_s : Blk W1 (w.heap.size + 1) 67 #[.int .i64 t, .int .i64 b] := by rw [hW]; exact blkT
    have hLW1_s := kb_s.lt
    try clear kc_r kf_r
    try clear kc_s kf_s
    clear hW
    refine (HC.out _).mono ?_
    rintro e w1 ⟨rfl, hb⟩
    unfold frRet
    replace hB := hB.trans (Below.mono hb hB.size)
    have hz_w1 : W1.heap.size ≤ w1.heap.size := Below.size hb
    replace kb_r := kb_r.mv hb; obtain ⟨kb_r, kc_r, kf_r, hl_r, hn_r⟩ := kb_r
    replace kb_s := kb_s.mv hb; obtain ⟨kb_s, kc_s, kf_s, hl_s, hn_s⟩ := kb_s
    clear hb
    go_wp2_with fail
    go_roundw
    case rel => exact ⟨k + 1, t', b', by omega, by go_num, by exact blkT, by exact blkT, by exact tacT, HN⟩
    case measure => simp [intOf]; omega
  ·have e1 := HS.out
   rw [drop_end hlt, sumF_nil] at e1
   have H1 := Lib.hid e1
   clear e1
   go_wp2_with fail
   refine bodyPost_ret (v := .tuple #[.agg #[.int .i64 t, .int .i64 b], .bool true]) ?_ rfl ?_
   ·simp [results, Tryz.results100, go_sem, kc_r, kc_s]
   ·exact ⟨by rw [HE.out, ← H1.out]; rfl, by exact tacT⟩
set_option maxHeartbeats 800000 in
theorem SumOfSharesS_any (A : Option Addr) (c : Nat) (l : List T3) (w : World) (h : RdT w w.heap.size A c l) :
  Calls Tryz.prog 109 #[.slice A l.length c] w fun e w' => e = frRet (sumShares l) ∧ Below w.heap.size w w' := by
 obtain ⟨hl, hm⟩ := h.le
 have hB := Below.refl w.heap.size w
 by_cases h12 : (12 : Int) < l.length
 ·have HE : Hid (sumShares l = (0, 0, false)) := by unfold sumShares; rw [if_neg (by omega)]; rfl
  go_enter Tryz.func109, Tryz.ntmps109
  go_wp2_with fail
  refine bodyPost_ret (v := .tuple #[.agg #[.int .i64 0, .int .i64 0], .bool false]) ?_ rfl ?_
  ·simp [results, Tryz.results109, go_sem]
  ·exact ⟨by rw [HE.out]; rfl, by exact tacT⟩
 have e0 : sumShares l = sumF l 0 1 := by unfold sumShares; rw [if_pos (by omega)]
 obtain ⟨R, hR⟩ : ∃ R, R = sumF l 0 1 := ⟨_, rfl⟩
 have HR := Lib.hid hR
 have HE : Hid (sumShares l = R) := e0.trans hR.symm
 clear e0 hR
 go_enter Tryz.func109, Tryz.ntmps109
 go_wp2_with fail
 go_loopw [5] (fun i wr => ∃ (k : Nat) (t b : Int), k ≤ l.length ∧ i = .int .i64 k ∧ Blk wr w.heap.size 67 #[.int .i64 0, .int .i64 0] ∧ Blk wr (w.heap.size + 1) 67 #[.int .i64 t, .int .i64 b] ∧ Below w.heap.size w wr ∧ Hid (sumF (l.drop k) t b = R)) (fun i _ => l.length - (intOf i).toNat)
 case atStart => exact ⟨0, 0, 1, Nat.zero_le _, rfl, by exact blkT, by exact blkT, by exact tacT, HR.out.symm⟩
 case round =>
  obtain ⟨k, t, b, hk, rfl, kb_r, kb_s, hB, HS⟩ := hrel
  have kc_r := kb_r.cells
  have kf_r := kb_r.frozens
  have kc_s := kb_s.cells
  have kf_s := kb_s.frozens
  have hl_r := kb_r.lt
  have hl_s := kb_s.lt
  by_cases hlt : k < l.length
  ·obtain ⟨bb, o, x, rfl, hbb, hx, e0, e1, e2⟩ := h.at_ hlt
   have f0 : wr.cell? ⟨bb, o + k * 3, none⟩ = some (.int .i64 x.x) := (hB.cell (p := ⟨bb, _, none⟩) hbb).trans e0
   have f1 : wr.cell? ⟨bb, o + k * 3 + 1, none⟩ = some (.int .i64 x.y) := (hB.cell (p := ⟨bb, _, none⟩) hbb).trans e1
   have f2 : wr.cell? ⟨bb, o + k * 3 + 2, none⟩ = some (.int .i64 x.z) := (hB.cell (p := ⟨bb, _, none⟩) hbb).trans e2
   clear e0 e1 e2
   have hlb : bb < wr.heap.size := by omega
   have hk0 : (0 : Int) ≤ (k : Int) := by omega
   have hk1 : (k : Int) < (l.length : Int) := by omega
   obtain ⟨t', b', ok, ha⟩ : ∃ t' b' ok, addF t b x.y x.z = (t', b', ok) := ⟨_, _, _, rfl⟩
   have HC : Hid (∀ W, Calls Tryz.prog 140 #[.agg #[.int .i64 t, .int .i64 b], .agg #[.int .i64 x.y, .int .i64 x.z]] W fun e w' => e = frRet (t', b', ok) ∧ Below W.heap.size W w') := fun W => by rw [← ha]; exact AddFractionsS_any _ _ _ _ W
   cases ok
   ·have HN : Hid (R = (0, 0, false)) := by rw [← HS.out, drop_cons hx, sumF_no ha]; rfl
    clear ha hx HS
    go_wp2_with fail
    go_region_held3 (fun w' => w'.cell? ⟨w.heap.size + 1, 0, none⟩ = some (.int .i64 t) ∧ w'.cell? ⟨w.heap.size + 1, 1, none⟩ = some (.int .i64 b) ∧ w'.cell? ⟨bb, o + k * 3 + 1, none⟩ = some (.int .i64 x.y) ∧ w'.cell? ⟨bb, o + k * 3 + 2, none⟩ = some (.int .i64 x.z)) (first | (with_reducible exact ⟨kc_s 0, kc_s 1, f1, f2⟩) | (refine ⟨?_, ?_, ?_, ?_⟩ <;> simp [go_sem, kc_s 0, kc_s 1, f1, f2, hlb, hl_s]; done) | (with_reducible exact ⟨y3_0, y3_1, y3_2, y3_3⟩) | (refine ⟨?_, ?_, ?_, ?_⟩ <;> simp [go_sem, y3_0, y3_1, y3_2, y3_3, hlb, hl_s, n3_0, l3_0, n3_1, l3_1, n3_2, l3_2, n3_3, l3_3]; done) | exact ⟨kc_s 0, kc_s 1, f1, f2⟩)
     (((go_at_call 140; refine (HC.out _).mono ?_; rintro e w3 ⟨rfl, hb3⟩; unfold frRet; have hB3 : Below w.heap.size w w3 := (by exact tacT); have hz3 : wr.heap.size ≤ w3.heap.size := (by have hzz := Below.size hb3; first | omega | (simp at hzz; omega)); have l3_0 : w.heap.size + 1 < w3.heap.size := (by omega); have n3_0 := Nat.ne_of_lt l3_0; have y3_0 : w3.cell? ⟨w.heap.size + 1, 0, none⟩ = some (.int .i64 t) := (Below.cell hb3 (p := ⟨w.heap.size + 1, 0, none⟩) (by first | (simp; done) | (simp; omega) | omega)).trans (by first | exact kc_s 0 | (simp [go_sem, kc_s 0, hlb, hl_s]; done)); have l3_1 : w.heap.size + 1 < w3.heap.size := (by omega); have n3_1 := Nat.ne_of_lt l3_1; have y3_1 : w3.cell? ⟨w.heap.size + 1, 1, none⟩ = some (.int .i64 b) := (Below.cell hb3 (p := ⟨w.heap.size + 1, 1, none⟩) (by first | (simp; done) | (simp; omega) | omega)).trans (by first | exact kc_s 1 | (simp [go_sem, kc_s 1, hlb, hl_s]; done)); have l3_2 : bb < w3.heap.size := (by omega); have n3_2 := Nat.ne_of_lt l3_2; have y3_2 : w3.cell? ⟨bb, o + k * 3 + 1, none⟩ = some (.int .i64 x.y) := (Below.cell hb3 (p := ⟨bb, o + k * 3 + 1, none⟩) (by first | (simp; done) | (simp; omega) | omega)).trans (by first | exact f1 | (simp [go_sem, f1, hlb, hl_s]; done)); have l3_3 : bb < w3.heap.size := (by omega); have n3_3 := Nat.ne_of_lt l3_3; have y3_3 : w3.cell? ⟨bb, o + k * 3 + 2, none⟩ = some (.int .i64 x.z) := (Below.cell hb3 (p := ⟨bb, o + k * 3 + 2, none⟩) (by first | (simp; done) | (simp; omega) | omega)).trans (by first | exact f2 | (simp [go_sem, f2, hlb, hl_s]; done)); have kb3_r : Blk w3 (w.heap.size) 67 #[.int .i64 0, .int .i64 0] := Blk.below (by exact blkT) hb3 (by first | (simp; done) | (simp; omega) | omega); have kc3_r := kb3_r.cells; have kf3_r := kb3_r.frozens; have hl3_r := kb3_r.lt; have hn3_r := Nat.ne_of_lt hl3_r; have kb3_s : Blk w3 (w.heap.size + 1) 67 #[.int .i64 t, .int .i64 b] := Blk.below (by exact blkT) hb3 (by first | (simp; done) | (simp; omega) | omega); have kc3_s := kb3_s.cells; have kf3_s := kb3_s.frozens; have hl3_s := kb3_s.lt; have hn3_s := Nat.ne_of_lt hl3_s; try (have kb9 : Blk w3 wr.heap.size 67 #[.int .i64 0, .int .i64 0] := Blk.below (by exact blkT) hb3 (by exact sT); have kc9 := kb9.cells; have kf9 := kb9.frozens; have hl9 := kb9.lt; have hn9 := Nat.ne_of_lt hl9; have m0 : w.heap.size + 1 ≠ wr.heap.size := (by omega); have k0 : wr.heap.size ≠ w.heap.size + 1 := (by omega); have m1 : bb ≠ wr.heap.size := (by omega); have k1 : wr.heap.size ≠ bb := (by omega); have m2 : w.heap.size ≠ wr.heap.size := (by omega); have k2 : wr.heap.size ≠ w.heap.size := (by omega)))))
    all_goals
     go_wp2_with fail
     refine bodyPost_ret (v := .tuple #[.agg #[.int .i64 0, .int .i64 0], .bool false]) ?_ rfl ?_
     ·simp [results, Tryz.results109, go_sem, kc3_r, kc3_s, hn3_r, hn3_s, hl3_r, hl3_s]
     ·exact ⟨by rw [HE.out, HN.out]; rfl, by exact tacT⟩
   ·have HN : Hid (sumF (l.drop (k + 1)) t' b' = R) := by rw [← HS.out, drop_cons hx, sumF_yes ha]; rfl
    clear ha hx HS
    go_wp2_with fail
    go_region_held3 (fun w' => w'.cell? ⟨w.heap.size + 1, 0, none⟩ = some (.int .i64 t) ∧ w'.cell? ⟨w.heap.size + 1, 1, none⟩ = some (.int .i64 b) ∧ w'.cell? ⟨bb, o + k * 3 + 1, none⟩ = some (.int .i64 x.y) ∧ w'.cell? ⟨bb, o + k * 3 + 2, none⟩ = some (.int .i64 x.z)) (first | (with_reducible exact ⟨kc_s 0, kc_s 1, f1, f2⟩) | (refine ⟨?_, ?_, ?_, ?_⟩ <;> simp [go_sem, kc_s 0, kc_s 1, f1, f2, hlb, hl_s]; done) | (with_reducible exact ⟨y3_0, y3_1, y3_2, y3_3⟩) | (refine ⟨?_, ?_, ?_, ?_⟩ <;> simp [go_sem, y3_0, y3_1, y3_2, y3_3, hlb, hl_s, n3_0, l3_0, n3_1, l3_1, n3_2, l3_2, n3_3, l3_3]; done) | exact ⟨kc_s 0, kc_s 1, f1, f2⟩)
     (((go_at_call 140; refine (HC.out _).mono ?_; rintro e w3 ⟨rfl, hb3⟩; unfold frRet; have hB3 : Below w.heap.size w w3 := (by exact tacT); have hz3 : wr.heap.size ≤ w3.heap.size := (by have hzz := Below.size hb3; first | omega | (simp at hzz; omega)); have l3_0 : w.heap.size + 1 < w3.heap.size := (by omega); have n3_0 := Nat.ne_of_lt l3_0; have y3_0 : w3.cell? ⟨w.heap.size + 1, 0, none⟩ = some (.int .i64 t) := (Below.cell hb3 (p := ⟨w.heap.size + 1, 0, none⟩) (by first | (simp; done) | (simp; omega) | omega)).trans (by first | exact kc_s 0 | (simp [go_sem, kc_s 0, hlb, hl_s]; done)); have l3_1 : w.heap.size + 1 < w3.heap.size := (by omega); have n3_1 := Nat.ne_of_lt l3_1; have y3_1 : w3.cell? ⟨w.heap.size + 1, 1, none⟩ = some (.int .i64 b) := (Below.cell hb3 (p := ⟨w.heap.size + 1, 1, none⟩) (by first | (simp; done) | (simp; omega) | omega)).trans (by first | exact kc_s 1 | (simp [go_sem, kc_s 1, hlb, hl_s]; done)); have l3_2 : bb < w3.heap.size := (by omega); have n3_2 := Nat.ne_of_lt l3_2; have y3_2 : w3.cell? ⟨bb, o + k * 3 + 1, none⟩ = some (.int .i64 x.y) := (Below.cell hb3 (p := ⟨bb, o + k * 3 + 1, none⟩) (by first | (simp; done) | (simp; omega) | omega)).trans (by first | exact f1 | (simp [go_sem, f1, hlb, hl_s]; done)); have l3_3 : bb < w3.heap.size := (by omega); have n3_3 := Nat.ne_of_lt l3_3; have y3_3 : w3.cell? ⟨bb, o + k * 3 + 2, none⟩ = some (.int .i64 x.z) := (Below.cell hb3 (p := ⟨bb, o + k * 3 + 2, none⟩) (by first | (simp; done) | (simp; omega) | omega)).trans (by first | exact f2 | (simp [go_sem, f2, hlb, hl_s]; done)); have kb3_r : Blk w3 (w.heap.size) 67 #[.int .i64 0, .int .i64 0] := Blk.below (by exact blkT) hb3 (by first | (simp; done) | (simp; omega) | omega); have kc3_r := kb3_r.cells; have kf3_r := kb3_r.frozens; have hl3_r := kb3_r.lt; have hn3_r := Nat.ne_of_lt hl3_r; have kb3_s : Blk w3 (w.heap.size + 1) 67 #[.int .i64 t, .int .i64 b] := Blk.below (by exact blkT) hb3 (by first | (simp; done) | (simp; omega) | omega); have kc3_s := kb3_s.cells; have kf3_s := kb3_s.frozens; have hl3_s := kb3_s.lt; have hn3_s := Nat.ne_of_lt hl3_s; try (have kb9 : Blk w3 wr.heap.size 67 #[.int .i64 0, .int .i64 0] := Blk.below (by exact blkT) hb3 (by exact sT); have kc9 := kb9.cells; have kf9 := kb9.frozens; have hl9 := kb9.lt; have hn9 := Nat.ne_of_lt hl9; have m0 : w.heap.size + 1 ≠ wr.heap.size := (by omega); have k0 : wr.heap.size ≠ w.heap.size + 1 := (by omega); have m1 : bb ≠ wr.heap.size := (by omega); have k1 : wr.heap.size ≠ bb := (by omega); have m2 : w.heap.size ≠ wr.heap.size := (by omega); have k2 : wr.heap.size ≠ w.heap.size := (by omega)))))
    all_goals
     go_wp2_with fail
     go_roundw
     case rel => exact ⟨k + 1, t', b', by omega, by go_num, by exact blkT, by exact blkT, by exact tacT, HN⟩
     case measure => simp [intOf]; omega
  ·have e1 := HS.out
   rw [drop_end hlt, sumF_nil] at e1
   have H1 := Lib.hid e1
   clear e1
   go_wp2_with fail
   refine bodyPost_ret (v := .tuple #[.agg #[.int .i64 t, .int .i64 b], .bool true]) ?_ rfl ?_
   ·simp [results, Tryz.results109, go_sem, kc_r, kc_s]
   ·exact ⟨by rw [HE.out, ← H1.out]; rfl, by exact tacT⟩
end
end Go.Proofs.YtpmmjhpmheooeaaGreatDoor
