/- Texts of the proof, joined: Act, ActDraw, To3A. -/
import Derived.Test.YtpmmjhpmheooeaaGreatDoorQ0
import Derived.Test.YtpmmjhpmheooeaaGreatDoorQ1
import Derived.Test.YtpmmjhpmheooeaaGreatDoorQ19
import Derived.Test.YtpmmjhpmheooeaaGreatDoorQ12
namespace Go.Proofs.YtpmmjhpmheooeaaGreatDoor
set_option linter.unusedSimpArgs false
set_option linter.unusedVariables false
section
open Go.RowKit
def actOk (k a b : Int) : Bool :=
 if k = 1 ∨ k = 3 then inB a 0 1000 && (b == 0)
 else if k = 2 then inB a 1 99 && inB b 0 1000
 else if k = 4 then inB a 1 99 && inB b 1 99
 else if k = 5 then inB a 1 99 && inB b 1 98
 else if k = 6 then inB a 1 99 && (b == 0)
 else false
set_option maxHeartbeats 1600000 in
theorem ActOk_any (x y z : Int) (w : World) :
  Calls Tryz.prog 59 #[.agg #[.int .i64 x, .int .i64 y, .int .i64 z]] w fun e w' => e = .returned (.bool (actOk x y z)) ∧ Below w.heap.size w w' := by
 by_cases h1 : x = 1 ∨ x = 3
 ·have e1 : actOk x y z = (inB y 0 1000 && (z == 0)) := by unfold actOk; rw [if_pos h1]
  have E1 := Lib.hid e1; clear e1
  rcases h1 with rfl | rfl
  all_goals
   cases hi : inB y 0 1000
   all_goals
    go_enter Tryz.func59, Tryz.ntmps59
    go_wp2_with (go_at_call 97; refine (within_any _ _ _ _).mono ?_; rintro e w' ⟨rfl, rfl⟩)
    go_ret
    exact ⟨by rw [E1.out, hi]; rfl, (Below.refl _ _).alloc (Nat.le_refl _) _⟩
 by_cases h2 : x = 2
 ·have e1 : actOk x y z = (inB y 1 99 && inB z 0 1000) := by unfold actOk; rw [if_neg h1, if_pos h2]
  have E1 := Lib.hid e1; clear e1 h1
  subst h2
  cases hi : inB y 1 99
  all_goals
   go_enter Tryz.func59, Tryz.ntmps59
   go_wp2_with (go_at_call 97; refine (within_any _ _ _ _).mono ?_; rintro e w' ⟨rfl, rfl⟩)
   go_ret
   exact ⟨by rw [E1.out, hi]; rfl, (Below.refl _ _).alloc (Nat.le_refl _) _⟩
 by_cases h4 : x = 4
 ·have e1 : actOk x y z = (inB y 1 99 && inB z 1 99) := by unfold actOk; rw [if_neg h1, if_neg h2, if_pos h4]
  have E1 := Lib.hid e1; clear e1 h1 h2
  subst h4
  cases hi : inB y 1 99
  all_goals
   go_enter Tryz.func59, Tryz.ntmps59
   go_wp2_with (go_at_call 97; refine (within_any _ _ _ _).mono ?_; rintro e w' ⟨rfl, rfl⟩)
   go_ret
   exact ⟨by rw [E1.out, hi]; rfl, (Below.refl _ _).alloc (Nat.le_refl _) _⟩
 by_cases h5 : x = 5
 ·have e1 : actOk x y z = (inB y 1 99 && inB z 1 98) := by unfold actOk; rw [if_neg h1, if_neg h2, if_neg h4, if_pos h5]
  have E1 := Lib.hid e1; clear e1 h1 h2 h4
  subst h5
  cases hi : inB y 1 99
  all_goals
   go_enter Tryz.func59, Tryz.ntmps59
   go_wp2_with (go_at_call 97; refine (within_any _ _ _ _).mono ?_; rintro e w' ⟨rfl, rfl⟩)
   go_ret
   exact ⟨by rw [E1.out, hi]; rfl, (Below.refl _ _).alloc (Nat.le_refl _) _⟩
 by_cases h6 : x = 6
 ·have e1 : actOk x y z = (inB y 1 99 && (z == 0)) := by unfold actOk; rw [if_neg h1, if_neg h2, if_neg h4, if_neg h5, if_pos h6]
  have E1 := Lib.hid e1; clear e1 h1 h2 h4 h5
  subst h6
  cases hi : inB y 1 99
  all_goals
   go_enter Tryz.func59, Tryz.ntmps59
   go_wp2_with (go_at_call 97; refine (within_any _ _ _ _).mono ?_; rintro e w' ⟨rfl, rfl⟩)
   go_ret
   exact ⟨by rw [E1.out, hi]; rfl, (Below.refl _ _).alloc (Nat.le_refl _) _⟩
 have e1 : actOk x y z = false := by unfold actOk; rw [if_neg h1, if_neg h2, if_neg h4, if_neg h5, if_neg h6]
 have E1 := Lib.hid e1; clear e1
 have g1 : (x == 1) = false := by simp; omega
 have g3 : (x == 3) = false := by simp; omega
 have g2 : (x == 2) = false := by simp; omega
 have g4 : (x == 4) = false := by simp; omega
 have g5 : (x == 5) = false := by simp; omega
 have g6 : (x == 6) = false := by simp; omega
 clear h1 h2 h4 h5 h6
 go_enter Tryz.func59, Tryz.ntmps59
 go_wp2
 go_ret
 exact ⟨by rw [E1.out]; rfl, (Below.refl _ _).alloc (Nat.le_refl _) _⟩
end
section
open Go.RowKit
set_option maxRecDepth 20000
theorem act_1 {a : Int} (h0 : 0 ≤ a) (h1 : a ≤ 1000) : actOk 1 a 0 = true := by unfold actOk inB; simp; omega
theorem act_2 {a b : Int} (h0 : 1 ≤ a) (h1 : a ≤ 99) (h2 : 0 ≤ b) (h3 : b ≤ 1000) : actOk 2 a b = true := by unfold actOk inB; simp; omega
theorem act_3 {a : Int} (h0 : 0 ≤ a) (h1 : a ≤ 1000) : actOk 3 a 0 = true := by unfold actOk inB; simp; omega
theorem act_4 {a b : Int} (h0 : 1 ≤ a) (h1 : a ≤ 99) (h2 : 1 ≤ b) (h3 : b ≤ 99) : actOk 4 a b = true := by unfold actOk inB; simp; omega
theorem act_5 {a b : Int} (h0 : 1 ≤ a) (h1 : a ≤ 99) (h2 : 1 ≤ b) (h3 : b ≤ 98) : actOk 5 a b = true := by unfold actOk inB; simp; omega
theorem act_6 {a : Int} (h0 : 1 ≤ a) (h1 : a ≤ 99) : actOk 6 a 0 = true := by unfold actOk inB; simp; omega
set_option maxHeartbeats 3200000 in
theorem l39Act_any (p : Nat) (w : World) (h : Cur w p) :
  Calls Tryz.prog 58 #[.pointer (some ⟨p, 0, none⟩)] w fun e w' => ∃ x y z : Int, e = .returned (.agg #[.int .i64 x, .int .i64 y, .int .i64 z]) ∧ actOk x y z = true ∧ Drew p w w' := by
 have hpl := h.lt
 have D0 : Hid (Drew p w (w.alloc (.cells #[.int .i64 0, .int .i64 0, .int .i64 0] 50))) := (Drew.here h).alloc _
 have kb := Blk.new w 50 #[.int .i64 0, .int .i64 0, .int .i64 0]
 have hne : w.heap.size ≠ p := by omega
 go_enter Tryz.func58, Tryz.ntmps58
 go_wp2_with fail
 refine (l01Below_any p 8 _ D0.out.1 (by omega)).mono ?_
 rintro e w1 ⟨x, rfl, x0, x1, _, hd⟩
 replace x1 := x1 (by omega)
 have K1 := Lib.hid (hd.blk kb hne)
 have D1 := Lib.hid (D0.out.trans hd)
 clear hd kb D0
 have hs1 : w.heap.size < w1.heap.size := K1.out.lt
 obtain rfl | rfl | rfl | rfl | rfl | rfl | rfl | rfl : x = 0 ∨ x = 1 ∨ x = 2 ∨ x = 3 ∨ x = 4 ∨ x = 5 ∨ x = 6 ∨ x = 7 := by omega
 ·go_wp2_with fail
  refine (l01Below_any p 90 w1 D1.out.1 (by omega)).mono ?_
  rintro e w2 ⟨y, rfl, y0, y1, _, hd⟩
  replace y1 := y1 (by omega)
  have kb2 := hd.blk K1.out hne
  have D9 := Lib.hid (D1.out.trans hd)
  have kc := kb2.cells
  have kf := kb2.frozens
  have hl2 := kb2.lt
  clear hd
  go_wp2_with fail
  refine bodyPost_ret (v := .agg #[.int .i64 1, .int .i64 (y), .int .i64 (0)]) (by simp [results, Tryz.results58, go_sem, kc, hl2]) rfl ⟨1, y, 0, rfl, act_1 (by omega) (by omega), ?_⟩
  repeat' (first | exact D9.out | (refine Drew.store ?_ hpl (Nat.le_refl _) _ _))
 ·go_wp2_with fail
  refine (l01Below_any p 90 w1 D1.out.1 (by omega)).mono ?_
  rintro e w2 ⟨y, rfl, y0, y1, _, hd⟩
  replace y1 := y1 (by omega)
  have kb2 := hd.blk K1.out hne
  have D9 := Lib.hid (D1.out.trans hd)
  have kc := kb2.cells
  have kf := kb2.frozens
  have hl2 := kb2.lt
  clear hd
  go_wp2_with fail
  refine bodyPost_ret (v := .agg #[.int .i64 1, .int .i64 (y), .int .i64 (0)]) (by simp [results, Tryz.results58, go_sem, kc, hl2]) rfl ⟨1, y, 0, rfl, act_1 (by omega) (by omega), ?_⟩
  repeat' (first | exact D9.out | (refine Drew.store ?_ hpl (Nat.le_refl _) _ _))
 ·go_wp2_with fail
  refine (l01Below_any p 4 w1 D1.out.1 (by omega)).mono ?_
  rintro e w2 ⟨y, rfl, y0, y1, _, hd⟩
  replace y1 := y1 (by omega)
  have K2 := Lib.hid (hd.blk K1.out hne)
  have D2 := Lib.hid (D1.out.trans hd)
  clear hd
  go_wp2_with fail
  refine (l01Below_any p 40 w2 D2.out.1 (by omega)).mono ?_
  rintro e w3 ⟨z, rfl, z0, z1, _, hd⟩
  replace z1 := z1 (by omega)
  have kb2 := hd.blk K2.out hne
  have D9 := Lib.hid (D2.out.trans hd)
  have kc := kb2.cells
  have kf := kb2.frozens
  have hl2 := kb2.lt
  clear hd
  go_wp2_with fail
  refine bodyPost_ret (v := .agg #[.int .i64 2, .int .i64 (1 + y), .int .i64 (z)]) (by simp [results, Tryz.results58, go_sem, kc, hl2]) rfl ⟨2, 1 + y, z, rfl, act_2 (by omega) (by omega) (by omega) (by omega), ?_⟩
  repeat' (first | exact D9.out | (refine Drew.store ?_ hpl (Nat.le_refl _) _ _))
 ·go_wp2_with fail
  refine (l01Below_any p 4 w1 D1.out.1 (by omega)).mono ?_
  rintro e w2 ⟨y, rfl, y0, y1, _, hd⟩
  replace y1 := y1 (by omega)
  have K2 := Lib.hid (hd.blk K1.out hne)
  have D2 := Lib.hid (D1.out.trans hd)
  clear hd
  go_wp2_with fail
  refine (l01Below_any p 40 w2 D2.out.1 (by omega)).mono ?_
  rintro e w3 ⟨z, rfl, z0, z1, _, hd⟩
  replace z1 := z1 (by omega)
  have kb2 := hd.blk K2.out hne
  have D9 := Lib.hid (D2.out.trans hd)
  have kc := kb2.cells
  have kf := kb2.frozens
  have hl2 := kb2.lt
  clear hd
  go_wp2_with fail
  refine bodyPost_ret (v := .agg #[.int .i64 2, .int .i64 (1 + y), .int .i64 (z)]) (by simp [results, Tryz.results58, go_sem, kc, hl2]) rfl ⟨2, 1 + y, z, rfl, act_2 (by omega) (by omega) (by omega) (by omega), ?_⟩
  repeat' (first | exact D9.out | (refine Drew.store ?_ hpl (Nat.le_refl _) _ _))
 ·go_wp2_with fail
  refine (l01Below_any p 12 w1 D1.out.1 (by omega)).mono ?_
  rintro e w2 ⟨y, rfl, y0, y1, _, hd⟩
  replace y1 := y1 (by omega)
  have kb2 := hd.blk K1.out hne
  have D9 := Lib.hid (D1.out.trans hd)
  have kc := kb2.cells
  have kf := kb2.frozens
  have hl2 := kb2.lt
  clear hd
  go_wp2_with fail
  refine bodyPost_ret (v := .agg #[.int .i64 3, .int .i64 (y), .int .i64 (0)]) (by simp [results, Tryz.results58, go_sem, kc, hl2]) rfl ⟨3, y, 0, rfl, act_3 (by omega) (by omega), ?_⟩
  repeat' (first | exact D9.out | (refine Drew.store ?_ hpl (Nat.le_refl _) _ _))
 ·go_wp2_with fail
  refine (l01Below_any p 3 w1 D1.out.1 (by omega)).mono ?_
  rintro e w2 ⟨y, rfl, y0, y1, _, hd⟩
  replace y1 := y1 (by omega)
  have K2 := Lib.hid (hd.blk K1.out hne)
  have D2 := Lib.hid (D1.out.trans hd)
  clear hd
  go_wp2_with fail
  refine (l01Below_any p 4 w2 D2.out.1 (by omega)).mono ?_
  rintro e w3 ⟨z, rfl, z0, z1, _, hd⟩
  replace z1 := z1 (by omega)
  have kb2 := hd.blk K2.out hne
  have D9 := Lib.hid (D2.out.trans hd)
  have kc := kb2.cells
  have kf := kb2.frozens
  have hl2 := kb2.lt
  clear hd
  go_wp2_with fail
  refine bodyPost_ret (v := .agg #[.int .i64 4, .int .i64 (1 + y), .int .i64 (1 + z)]) (by simp [results, Tryz.results58, go_sem, kc, hl2]) rfl ⟨4, 1 + y, 1 + z, rfl, act_4 (by omega) (by omega) (by omega) (by omega), ?_⟩
  repeat' (first | exact D9.out | (refine Drew.store ?_ hpl (Nat.le_refl _) _ _))
 ·go_wp2_with fail
  refine (l01Below_any p 4 w1 D1.out.1 (by omega)).mono ?_
  rintro e w2 ⟨y, rfl, y0, y1, _, hd⟩
  replace y1 := y1 (by omega)
  have K2 := Lib.hid (hd.blk K1.out hne)
  have D2 := Lib.hid (D1.out.trans hd)
  clear hd
  go_wp2_with fail
  refine (l01Below_any p 5 w2 D2.out.1 (by omega)).mono ?_
  rintro e w3 ⟨z, rfl, z0, z1, _, hd⟩
  replace z1 := z1 (by omega)
  have kb2 := hd.blk K2.out hne
  have D9 := Lib.hid (D2.out.trans hd)
  have kc := kb2.cells
  have kf := kb2.frozens
  have hl2 := kb2.lt
  clear hd
  go_wp2_with fail
  refine bodyPost_ret (v := .agg #[.int .i64 5, .int .i64 (1 + y), .int .i64 (1 + z)]) (by simp [results, Tryz.results58, go_sem, kc, hl2]) rfl ⟨5, 1 + y, 1 + z, rfl, act_5 (by omega) (by omega) (by omega) (by omega), ?_⟩
  repeat' (first | exact D9.out | (refine Drew.store ?_ hpl (Nat.le_refl _) _ _))
 ·go_wp2_with fail
  refine (l01Below_any p 4 w1 D1.out.1 (by omega)).mono ?_
  rintro e w2 ⟨y, rfl, y0, y1, _, hd⟩
  replace y1 := y1 (by omega)
  have kb2 := hd.blk K1.out hne
  have D9 := Lib.hid (D1.out.trans hd)
  have kc := kb2.cells
  have kf := kb2.frozens
  have hl2 := kb2.lt
  clear hd
  go_wp2_with fail
  refine bodyPost_ret (v := .agg #[.int .i64 6, .int .i64 (1 + y), .int .i64 (0)]) (by simp [results, Tryz.results58, go_sem, kc, hl2]) rfl ⟨6, 1 + y, 0, rfl, act_6 (by omega) (by omega), ?_⟩
  repeat' (first | exact D9.out | (refine Drew.store ?_ hpl (Nat.le_refl _) _ _))
theorem infoAct : (Tryz.prog.info? 50).map (fun i => (i.zero, i.size, i.bytes)) = some (some (.agg #[.int .i64 0, .int .i64 0, .int .i64 0]), 3, 24) := by kernel_rfl
theorem row_oneD (w : World) (base : Nat) (x y z : Int) (hb : base ≤ w.heap.size) : (w.alloc (.cells #[.int .i64 x, .int .i64 y, .int .i64 z] 50)).ownsRow base 50 3 (.slice (some ⟨w.heap.size, 0, none⟩) 1 1) 1 (t3s [⟨x, y, z⟩]) :=
 ⟨rfl, .inr ⟨w.heap.size, 1, #[.int .i64 x, .int .i64 y, .int .i64 z], rfl, hb, heap_alloc_new w _, Nat.le_refl _, by unfold maxLen; omega, rfl, rfl⟩⟩
set_option maxHeartbeats 3200000 in
theorem l39List_any (p : Nat) (w : World) (h : Cur w p) :
  Calls Tryz.prog 33 #[.pointer (some ⟨p, 0, none⟩)] w fun e w' => ∃ (A : Option Addr) (c : Nat) (l : List T3), e = .returned (.slice A l.length c) ∧ ((∀ a ∈ l, actOk a.x a.y a.z = true) ∧ l.length ≤ 13) ∧ w'.ownsRow w.heap.size 50 3 (.slice A l.length c) l.length (t3s l) ∧ Drew p w w' := by
 have hpl := h.lt
 have D0 : Hid (Drew p w (w.alloc (.cells #[] 50))) := (Drew.here h).alloc _
 have ho0 := Lib.hid (ownEmpty w w.heap.size 50 3 (Nat.le_refl _))
 go_enter Tryz.func33, Tryz.ntmps33
 go_wp2_with fail
 refine (l01Below_any p 14 _ D0.out.1 (by omega)).mono ?_
 rintro e w1 ⟨n, rfl, n0, n1, _, hd⟩
 replace n1 := n1 (by omega)
 obtain ⟨m, rfl⟩ := Int.eq_ofNat_of_zero_le n0
 have S0 : Hid (((∀ a ∈ ([] : List T3), actOk a.x a.y a.z = true) ∧ ([] : List T3).length = 0) ∧ w1.ownsRow w.heap.size 50 3 (.slice (some ⟨w.heap.size, 0, none⟩) 0 0) 0 (t3s []) ∧ Drew p w w1) := ⟨⟨by simp, rfl⟩, hd.rd ho0.out hpl, D0.out.trans hd⟩
 clear hd D0 ho0
 go_wp2_with fail
 go_loopw [3, 5] (fun v i wr => ∃ (k : Nat) (A : Option Addr) (c : Nat) (l : List T3), k ≤ m ∧ i = .int .i64 k ∧ v = .slice A l.length c ∧ Hid (((∀ a ∈ l, actOk a.x a.y a.z = true) ∧ l.length = k) ∧ wr.ownsRow w.heap.size 50 3 (.slice A l.length c) l.length (t3s l) ∧ Drew p w wr)) (fun _ i _ => m - (intOf i).toNat)
 case atStart => exact ⟨0, _, 0, [], Nat.zero_le _, rfl, rfl, S0⟩
 case round =>
  clear S0
  obtain ⟨k, A, c, l, hk, rfl, rfl, HO⟩ := hrel
  have HLK := Lib.hid HO.out.1.2
  have hl13 : l.length ≤ m := by have := HLK.out; omega
  by_cases hlt : k < m
  ·have hki : (k : Int) < (m : Int) := by omega
   go_wp2_with fail
   refine (l39Act_any p wr HO.out.2.2.1).mono ?_
   rintro e w2 ⟨x, y, z, rfl, hok, hd⟩
   have D2 := Lib.hid hd
   have HK := Lib.hid hok
   clear hd hok
   go_upto_region 7 with fail
   first | refine name_world ?_ | refine name_wp ?_
   intro W5 hW
   have hpr : p < wr.heap.size := by have := HO.out.2.2.1.lt; omega
   have D5 : Hid (Drew p wr W5) := by show Drew p wr W5; rw [hW]; repeat' (first | exact D2.out | (refine Drew.store ?_ hpr (by have := D2.out.size; omega) _ _) | (refine Drew.alloc ?_ _))
   have kb : Blk W5 w2.heap.size 50 #[.int .i64 x, .int .i64 y, .int .i64 z] := by rw [hW]; exact blkT
   clear hW
   have kc := kb.cells
   have hl5 := kb.lt
   have hzr : w.heap.size ≤ wr.heap.size := HO.out.2.2.size
   have hz5 : wr.heap.size ≤ W5.heap.size := D5.out.size
   have ho5 := D5.out.rd HO.out.2.1 hpl
   have ho6 : (W5.alloc (.cells #[.int .i64 x, .int .i64 y, .int .i64 z] 50)).ownsRow w.heap.size 50 3 (.slice A l.length c) l.length (t3s l) := (Row2.alloc (Row2.born ho5) _).1
   have hrd : Rd (W5.alloc (.cells #[.int .i64 x, .int .i64 y, .int .i64 z] 50)) (W5.alloc (.cells #[.int .i64 x, .int .i64 y, .int .i64 z] 50)).heap.size 3 (some ⟨W5.heap.size, 0, none⟩) 1 1 (t3s [⟨x, y, z⟩]) := Rd.of_own (row_oneD W5 W5.heap.size x y z (Nat.le_refl _))
   go_wp2_with (at_builtin; refine wpList_appAll rfl _ _ 36 rfl w.heap.size 50 (.agg #[.int .i64 0, .int .i64 0, .int .i64 0]) 3 24 Tryz.underlying36 infoAct rfl (by decide) (.slice A l.length c) l.length (t3s l) rfl ho6 _ (some ⟨W5.heap.size, 0, none⟩) 1 1 (t3s [⟨x, y, z⟩]) rfl hrd (t3s_one _) (by omega) (by omega) (by exact ooT) ?_)
   intro A2 c2 w6 ho2 hg2
   rw [← t3s_append] at ho2
   have hC6 : Cur w6 p := (D5.out.1.below (Below.alloc (Below.refl W5.heap.size W5) (Nat.le_refl _) (.cells #[.int .i64 x, .int .i64 y, .int .i64 z] 50)) D5.out.1.lt).other hg2 (fun k hk => by have := (own_block_ge ho6 hk).1; omega)
   have hg5 := grownBy_trans HO.out.2.2.2 D5.out.2
   have hg6 : w.grownBy w6 (some p) := ⟨hg2.os.trans hg5.os, hg2.tape.trans hg5.tape, hg2.output.trans hg5.output, Nat.le_trans hg5.size (Nat.le_trans (by simp) hg2.size), fun k hk hn => (hg2.block k (by have := hg5.size; simp; omega) (fun e => by have := (own_block_ge ho6 e.symm).1; omega)).trans ((Below.heap_alloc W5 _ k (by have := hg5.size; omega)).trans (hg5.block k hk hn))⟩
   have H6 : Hid (((∀ a ∈ l ++ [⟨x, y, z⟩], actOk a.x a.y a.z = true) ∧ (l ++ [(⟨x, y, z⟩ : T3)]).length = k + 1) ∧ w6.ownsRow w.heap.size 50 3 (.slice A2 (l ++ [(⟨x, y, z⟩ : T3)]).length c2) (l ++ [(⟨x, y, z⟩ : T3)]).length (t3s (l ++ [⟨x, y, z⟩])) ∧ Drew p w w6) :=
    ⟨⟨fun a ha => by
     rcases List.mem_append.1 ha with ha | ha
     ·exact HO.out.1.1 a ha
     ·simp at ha; subst ha; exact HK.out, by rw [List.length_append, HLK.out]; rfl⟩, by rw [List.length_append]; exact ho2, ⟨hC6, hg6⟩⟩
   clear hC6 ho2 hg2 hg6 hg5 ho6 hrd ho5 kb kc D5
   go_wp2_with fail
   go_roundw
   case rel => exact ⟨k + 1, A2, c2, _, by omega, by go_num, by rw [List.length_append]; rfl, H6.out⟩
   case measure => simp [intOf]; omega
  ·have hki : ¬ (k : Int) < (m : Int) := by omega
   go_wp2_with fail
   go_ret
   exact ⟨A, c, l, rfl, ⟨HO.out.1.1, by omega⟩, HO.out.2.1, HO.out.2.2⟩
set_option maxHeartbeats 3200000 in
theorem l39Village_any (p : Nat) (w : World) (h : Cur w p) :
  Calls Tryz.prog 32 #[.pointer (some ⟨p, 0, none⟩)] w fun e w' => ∃ (A : Option Addr) (c : Nat) (R : Option Addr) (d : Nat) (v : Vg), e = .returned (v.val A c R d) ∧ villageOk v = true ∧ w'.ownsRow w.heap.size 120 3 (.slice A v.book.evs.length c) v.book.evs.length (t3s v.book.evs) ∧ w'.ownsRow w.heap.size 69 3 (.slice R v.rights.length d) v.rights.length (t3s v.rights) ∧ Drew p w w' := by
 have hpl := h.lt
 have D0 : Hid (Drew p w (w.alloc (.cells #[.int .i64 0, .int .i64 0, .slice none 0 0, .int .i64 0, .int .i64 0, .int .i64 0, .int .i64 0, .slice none 0 0] 35))) := (Drew.here h).alloc _
 have K0 := Lib.hid (Blk.new w 35 #[.int .i64 0, .int .i64 0, .slice none 0 0, .int .i64 0, .int .i64 0, .int .i64 0, .int .i64 0, .slice none 0 0])
 have hne : w.heap.size ≠ p := by omega
 go_enter Tryz.func32, Tryz.ntmps32
 go_wp2_with fail
 refine (l01Once_any p 2 _ D0.out.1 (by omega)).mono ?_
 rintro e w1 ⟨b, rfl, hd⟩
 have K1 := Lib.hid (hd.blk K0.out hne)
 have D1 := Lib.hid (D0.out.trans hd)
 have hs1 : w.heap.size < w1.heap.size := K1.out.lt
 clear hd K0 D0
 cases b
 ·go_wp2_with fail
  refine (l38Village_any p w1 D1.out.1).mono ?_
  rintro e w2 ⟨A, c, R, d, ⟨⟨room, start, l, lv, ra, dr, lo⟩, rs⟩, rfl, ⟨hq1, hq2⟩, ho1, ho2, hd⟩
  have HQ : Hid (villageOk ⟨⟨room, start, l, lv, ra, dr, lo⟩, rs⟩ = true) := by show _ = _; unfold villageOk; rw [hq1.1, hq2.1]; rfl
  have D2 := Lib.hid (D1.out.trans hd)
  have kb_r := hd.blk K1.out hne
  have hr_e := Row2.born ho1
  have hr_s := Row2.born ho2
  clear hd hq1 hq2 ho1 ho2
  have kc_r := kb_r.cells
  have kf_r := kb_r.frozens
  have hl_r := kb_r.lt
  unfold Vg.val
  simp only at hr_e hr_s ⊢
  go_wp2_with fail
  refine bodyPost_ret (v := .agg #[.int .i64 room, .int .i64 start, .slice A l.length c, .int .i64 lv, .int .i64 ra, .int .i64 dr, .int .i64 lo, .slice R rs.length d]) ?_ rfl ⟨A, c, R, d, ⟨⟨room, start, l, lv, ra, dr, lo⟩, rs⟩, rfl, HQ.out, ?_, ?_, ?_⟩
  ·simp [results, Tryz.results32, go_sem, kc_r, hl_r]
  ·exact (Row2.mono (lo := w1.heap.size) (hi := w2.heap.size) (hi' := w2.heap.size) (by exact rowT) (by omega) (Nat.le_refl _)).1
  ·exact (Row2.mono (lo := w1.heap.size) (hi := w2.heap.size) (hi' := w2.heap.size) (by exact rowT) (by omega) (Nat.le_refl _)).1
  ·repeat' (first | (with_reducible exact D2.out) | (with_reducible refine Drew.store ?_ hpl (Nat.le_refl _) _ _))
 ·go_wp2_with fail
  refine (SampleVillageS_any w1).mono ?_
  rintro e w2 ⟨A, c, R, d, rfl, ho1, ho2, hb⟩
  have HQ : Hid (villageOk (newV 200 100 1) = true) := by show _ = _; decide +kernel
  have D2 := Lib.hid (D1.out.below hb (Nat.le_refl _))
  have kb_r := K1.out.below hb hs1
  have hr_e := Row2.born ho1
  have hr_s := Row2.born ho2
  clear hb ho1 ho2
  have kc_r := kb_r.cells
  have kf_r := kb_r.frozens
  have hl_r := kb_r.lt
  unfold Vg.val
  simp only [newV, List.length_nil, List.length_cons, Nat.zero_add] at hr_e hr_s ⊢
  go_wp2_with fail
  refine bodyPost_ret (v := .agg #[.int .i64 200, .int .i64 100, .slice A 0 c, .int .i64 100, .int .i64 0, .int .i64 0, .int .i64 0, .slice R 1 d]) ?_ rfl ⟨A, c, R, d, newV 200 100 1, rfl, HQ.out, ?_, ?_, ?_⟩
  ·simp [results, Tryz.results32, go_sem, kc_r, hl_r]
  ·exact (Row2.mono (show Row2 _ w1.heap.size w2.heap.size 120 3 A 0 c (t3s []) by exact rowT) (by omega) (Nat.le_refl _)).1
  ·exact (Row2.mono (show Row2 _ w1.heap.size w2.heap.size 69 3 R 1 d (t3s [⟨1, 1, 1⟩]) by exact rowT) (by omega) (Nat.le_refl _)).1
  ·repeat' (first | (with_reducible exact D2.out) | (with_reducible refine Drew.store ?_ hpl (Nat.le_refl _) _ _))
set_option maxHeartbeats 6400000 in
theorem DrawActs_any (A : Option Addr) (c : Nat) (l : List Int) (w : World) (h : RdY w w.heap.size A c l) (hs : l.length ≤ 1048576) :
  Calls Tryz.prog 12 #[.slice A l.length c] w fun e w' => ∃ (A : Option Addr) (c : Nat) (R : Option Addr) (d : Nat) (v : Vg) (B : Option Addr) (n : Nat) (acts : List T3), e = .returned (.tuple #[v.val A c R d, .slice B acts.length n]) ∧ (villageOk v = true ∧ (∀ a ∈ acts, actOk a.x a.y a.z = true) ∧ acts.length ≤ 13) ∧ RdT w' w'.heap.size A c v.book.evs ∧ RdT w' w'.heap.size R d v.rights ∧ RdT w' w'.heap.size B n acts ∧ Below w.heap.size w w' := by
 have D0 : Hid (Below w.heap.size w (w.alloc (.cells #[.int .i64 0, .int .i64 0, .slice none 0 0, .int .i64 0, .int .i64 0, .int .i64 0, .int .i64 0, .slice none 0 0] 35))) := Below.alloc (Below.refl _ _) (Nat.le_refl _) _
 have K0 := Lib.hid (Blk.new w 35 #[.int .i64 0, .int .i64 0, .slice none 0 0, .int .i64 0, .int .i64 0, .int .i64 0, .int .i64 0, .slice none 0 0])
 have h0 : Hid (RdY (w.alloc (.cells #[.int .i64 0, .int .i64 0, .slice none 0 0, .int .i64 0, .int .i64 0, .int .i64 0, .int .i64 0, .slice none 0 0] 35)) (w.alloc (.cells #[.int .i64 0, .int .i64 0, .slice none 0 0, .int .i64 0, .int .i64 0, .int .i64 0, .int .i64 0, .slice none 0 0] 35)).heap.size A c l) := RdY.below h D0.out
 go_enter Tryz.func12, Tryz.ntmps12
 go_wp2_with fail
 refine (l01New_any A c l _ h0.out hs).mono ?_
 rintro e w1 ⟨p, rfl, hp, hc, hb⟩
 have hpw : w.heap.size < p := by simp at hp; omega
 have K1 := Lib.hid (K0.out.below hb (by simp))
 have B1 : Hid (Below w.heap.size w w1) := D0.out.trans (hb.mono (by simp))
 have HC := Lib.hid hc
 clear hc hb D0 K0 h0 hp
 have hp1 : p < w1.heap.size := HC.out.lt
 go_wp2_with fail
 refine (l39Village_any p w1 HC.out).mono ?_
 rintro e w2 ⟨A', c', R, d, ⟨⟨room, start, l', lv, ra, dr, lo⟩, rs⟩, rfl, hq, ho1, ho2, hd⟩
 have K2 := Lib.hid (hd.blk K1.out (by omega))
 have D2 := Lib.hid hd
 have HQ := Lib.hid hq
 have HE := Lib.hid (Row2.born ho1)
 have HS := Lib.hid (Row2.born ho2)
 clear hd hq ho1 ho2 K1
 unfold Vg.val
 simp only at HE HS ⊢
 go_upto_region 3 with fail
 first | refine name_world ?_ | refine name_wp ?_
 intro W3 hW
 have D3 : Hid (Drew p w1 W3) := by show Drew p w1 W3; rw [hW]; repeat' (first | exact D2.out | (refine Drew.store ?_ hp1 (by have := D2.out.size; omega) _ _) | (refine Drew.alloc ?_ _))
 have hz2 := D2.out.size
 have hl2 := K2.out.lt
 have kb_r : Blk W3 w.heap.size 35 #[.int .i64 0, .int .i64 0, .slice none 0 0, .int .i64 0, .int .i64 0, .int .i64 0, .int .i64 0, .slice none 0 0] := by have := K2.out; rw [hW]; exact blkT
 have kb : Blk W3 w2.heap.size 35 #[.int .i64 room, .int .i64 start, .slice A' l'.length c', .int .i64 lv, .int .i64 ra, .int .i64 dr, .int .i64 lo, .slice R rs.length d] := by rw [hW]; exact blkT
 have hr_e : Row2 W3 w1.heap.size w2.heap.size 120 3 A' l'.length c' (t3s l') := by have hr_1 := HE.out; rw [hW]; exact rowT
 have hr_s : Row2 W3 w1.heap.size w2.heap.size 69 3 R rs.length d (t3s rs) := by have hr_1 := HS.out; rw [hW]; exact rowT
 clear hW HE HS K2 D2
 have HSP : Hid (∀ W, Drew p W3 W → Blk W w.heap.size 35 #[.int .i64 0, .int .i64 0, .slice none 0 0, .int .i64 0, .int .i64 0, .int .i64 0, .int .i64 0, .slice none 0 0] ∧ Blk W w2.heap.size 35 #[.int .i64 room, .int .i64 start, .slice A' l'.length c', .int .i64 lv, .int .i64 ra, .int .i64 dr, .int .i64 lo, .slice R rs.length d] ∧ Row2 W w1.heap.size w2.heap.size 120 3 A' l'.length c' (t3s l') ∧ Row2 W w1.heap.size w2.heap.size 69 3 R rs.length d (t3s rs) ∧ Drew p w1 W) := fun W hd =>
  ⟨hd.blk kb_r (by omega), hd.blk kb (by omega), Row2.same hr_e (fun g hg => hd.2.block g (hr_e.1.lt g hg).2 (fun e => by have h9 := (hr_e.1.lt g hg).1; have := Option.some.inj e; omega)), Row2.same hr_s (fun g hg => hd.2.block g (hr_s.1.lt g hg).2 (fun e => by have h9 := (hr_s.1.lt g hg).1; have := Option.some.inj e; omega)), D3.out.trans hd⟩
 have hl3 := kb.lt
 have f0 : W3.cell? ⟨w2.heap.size, 0, none⟩ = some (.int .i64 room) := kb.cell 0
 have f1 : W3.cell? ⟨w2.heap.size, 1, none⟩ = some (.int .i64 start) := kb.cell 1
 have f2 : W3.cell? ⟨w2.heap.size, 2, none⟩ = some (.slice A' l'.length c') := kb.cell 2
 have f3 : W3.cell? ⟨w2.heap.size, 3, none⟩ = some (.int .i64 lv) := kb.cell 3
 have f4 : W3.cell? ⟨w2.heap.size, 4, none⟩ = some (.int .i64 ra) := kb.cell 4
 have f5 : W3.cell? ⟨w2.heap.size, 5, none⟩ = some (.int .i64 dr) := kb.cell 5
 have f6 : W3.cell? ⟨w2.heap.size, 6, none⟩ = some (.int .i64 lo) := kb.cell 6
 have f7 : W3.cell? ⟨w2.heap.size, 7, none⟩ = some (.slice R rs.length d) := kb.cell 7
 have HCC := Lib.hid D3.out.1
 have hn1 : w2.heap.size ≠ w.heap.size := by omega
 have hn2 : w.heap.size ≠ w2.heap.size := by omega
 clear kb kb_r hr_e hr_s
 go_region_held3 (fun w' => w'.cell? ⟨w2.heap.size, 0, none⟩ = some (.int .i64 room) ∧ w'.cell? ⟨w2.heap.size, 1, none⟩ = some (.int .i64 start) ∧ w'.cell? ⟨w2.heap.size, 2, none⟩ = some (.slice A' l'.length c') ∧ w'.cell? ⟨w2.heap.size, 3, none⟩ = some (.int .i64 lv) ∧ w'.cell? ⟨w2.heap.size, 4, none⟩ = some (.int .i64 ra) ∧ w'.cell? ⟨w2.heap.size, 5, none⟩ = some (.int .i64 dr) ∧ w'.cell? ⟨w2.heap.size, 6, none⟩ = some (.int .i64 lo) ∧ w'.cell? ⟨w2.heap.size, 7, none⟩ = some (.slice R rs.length d)) (first | (with_reducible exact ⟨f0, f1, f2, f3, f4, f5, f6, f7⟩) | (refine ⟨?_, ?_, ?_, ?_, ?_, ?_, ?_, ?_⟩ <;> simp [go_sem, f0, f1, f2, f3, f4, f5, f6, f7]; done) | (with_reducible exact ⟨y0, y1, y2, y3, y4, y5, y6, y7⟩) | (refine ⟨?_, ?_, ?_, ?_, ?_, ?_, ?_, ?_⟩ <;> simp [go_sem, y0, y1, y2, y3, y4, y5, y6, y7, hn1, hn2, hl4]; done))
  ((go_at_call 33; refine (l39List_any p W3.drew HCC.out.drew).mono ?_; rintro e w4 ⟨B, n, acts, rfl, haq, hoa, hd⟩; have H4 := Lib.hid (HSP.out w4 hd.of_drew); have HQ4 := Lib.hid (And.intro haq hoa); have hz4 := hd.of_drew.size; clear hd haq hoa; have y0 : w4.cell? ⟨w2.heap.size, 0, none⟩ = some (.int .i64 room) := H4.out.2.1.cell 0; have y1 : w4.cell? ⟨w2.heap.size, 1, none⟩ = some (.int .i64 start) := H4.out.2.1.cell 1; have y2 : w4.cell? ⟨w2.heap.size, 2, none⟩ = some (.slice A' l'.length c') := H4.out.2.1.cell 2; have y3 : w4.cell? ⟨w2.heap.size, 3, none⟩ = some (.int .i64 lv) := H4.out.2.1.cell 3; have y4 : w4.cell? ⟨w2.heap.size, 4, none⟩ = some (.int .i64 ra) := H4.out.2.1.cell 4; have y5 : w4.cell? ⟨w2.heap.size, 5, none⟩ = some (.int .i64 dr) := H4.out.2.1.cell 5; have y6 : w4.cell? ⟨w2.heap.size, 6, none⟩ = some (.int .i64 lo) := H4.out.2.1.cell 6; have y7 : w4.cell? ⟨w2.heap.size, 7, none⟩ = some (.slice R rs.length d) := H4.out.2.1.cell 7; have hl4 := H4.out.2.1.lt; have kb_r := H4.out.1; have kc_r := kb_r.cells; have kf_r := kb_r.frozens; have hl_r := kb_r.lt))
 all_goals
  have hr_e := H4.out.2.2.1
  have hr_s := H4.out.2.2.2.1
  have hr_a : Row2 w4 W3.heap.size w4.heap.size 50 3 B acts.length n (t3s acts) := Row2.born HQ4.out.2
  have hB : Below w.heap.size w w4 := B1.out.grown H4.out.2.2.2.2.2 B1.out.size (fun k hk => by have := Option.some.inj hk; omega)
  have hzw : w1.heap.size ≤ w4.heap.size := H4.out.2.2.2.2.size
  go_wp2_with fail
  refine bodyPost_ret (v := .tuple #[.agg #[.int .i64 room, .int .i64 start, .slice A' l'.length c', .int .i64 lv, .int .i64 ra, .int .i64 dr, .int .i64 lo, .slice R rs.length d], .slice B acts.length n]) ?_ rfl ⟨A', c', R, d, ⟨⟨room, start, l', lv, ra, dr, lo⟩, rs⟩, B, n, acts, rfl, ⟨HQ.out, HQ4.out.1.1, HQ4.out.1.2⟩, ?_, ?_, ?_, by exact tacT⟩
  ·simp [results, Tryz.results12, go_sem, kc_r, hl_r]
  ·exact (show Row2 _ w1.heap.size w2.heap.size 120 3 A' l'.length c' (t3s l') by exact rowT).rd
  ·exact (show Row2 _ w1.heap.size w2.heap.size 69 3 R rs.length d (t3s rs) by exact rowT).rd
  ·exact (show Row2 _ W3.heap.size w4.heap.size 50 3 B acts.length n (t3s acts) by exact rowT).rd
end
end Go.Proofs.YtpmmjhpmheooeaaGreatDoor
