/- Texts of the proof, joined: ToStr, OpenStr. -/
import Derived.Test.YtpmmjhpmheooeaaGreatDoorP36
import Derived.Test.YtpmmjhpmheooeaaGreatDoorP34
import Derived.Test.YtpmmjhpmheooeaaGreatDoorP35
import Derived.ChangeMaps5
namespace Go.Proofs.YtpmmjhpmheooeaaGreatDoor
set_option linter.unusedSimpArgs false
set_option linter.unusedVariables false
section
open Go.RowKit
set_option maxRecDepth 20000
def mtext (k : Nat) : List UInt8 := 109 :: Lib.decDigits k
def mtexts (k n : Nat) : List (List UInt8) := (List.range' k n).map mtext
theorem mtexts_len (k n : Nat) : (mtexts k n).length = n := by simp [mtexts]
theorem mtexts_succ (k n : Nat) : mtexts k (n + 1) = mtexts k n ++ [mtext (k + n)] := by
 unfold mtexts; rw [List.range'_concat]; simp
def mkS (l : List (List UInt8)) (k i : Nat) : List (List UInt8) := mtexts k i ++ l.drop i
theorem mkS_len (l : List (List UInt8)) (k i : Nat) (h : i ≤ l.length) : (mkS l k i).length = l.length := by simp [mkS, mtexts_len]; omega
theorem mkS_all (l : List (List UInt8)) (k : Nat) : mkS l k l.length = mtexts k l.length := by simp [mkS]
theorem mkS_succ (l : List (List UInt8)) (k i : Nat) (h : i < l.length) : (mkS l k i).set i (mtext (k + i)) = mkS l k (i + 1) := by
 unfold mkS
 rw [List.set_append_right _ _ (by rw [mtexts_len]; omega), mtexts_len, Nat.sub_self, List.drop_eq_getElem_cons h, List.set_cons_zero, mtexts_succ, List.append_assoc]
 rfl
theorem strs_set (l : List (List UInt8)) (k : Nat) (x : List UInt8) : strs (l.set k x) = (strs l).set k (sv x) := by unfold strs; rw [List.map_set]
theorem RdSt.le {w : World} {B c : Nat} {A : Option Addr} {l : List (List UInt8)} (h : RdSt w B A c l) : l.length ≤ c ∧ c ≤ 9223372036854775807 := ⟨h.2.1, h.2.2.1⟩
theorem RdSt.get {w : World} {B c : Nat} {A : Option Addr} {l : List (List UInt8)} (h : RdSt w B A c l) {k : Nat} (hk : k < l.length) :
  ∃ b o x, A = some ⟨b, o, none⟩ ∧ b < B ∧ l[k]? = some x ∧ w.cell? ⟨b, o + k, none⟩ = some (sv x) := by
 obtain ⟨b, o, e, hb, hc⟩ := h.2.2.2 (by omega)
 have hx : l[k]? = some l[k] := List.getElem?_eq_getElem hk
 exact ⟨b, o, l[k], e, hb, hx, hc k _ (by simp [strs, hx])⟩
theorem convM (W : World) (r : Nat) (h : r < 10) : (convert 28 9 (.slice (some ⟨W.heap.size, 0, none⟩) 1 1)).run Tryz.prog (W.alloc (.cells #[.int .u8 (48 + (r : Int))] 5)) = .ok (sv [UInt8.ofNat (48 + r)]) (W.alloc (.cells #[.int .u8 (48 + (r : Int))] 5)) := by
 refine run_convert_bytes_back _ _ _ 5 ⟨W.heap.size, 0, none⟩ 1 [UInt8.ofNat (48 + r)] Tryz.underlying28 Tryz.underlying5 Tryz.underlying9 (fun j hj => ?_)
 have hj0 : j = 0 := by simp at hj; omega
 subst hj0
 have e : (([UInt8.ofNat (48 + r)][0]'hj).toNat : Int) = 48 + (r : Int) := by
  show ((UInt8.ofNat (48 + r)).toNat : Int) = _
  rw [UInt8.toNat_ofNat']
  omega
 rw [e]
 simp [go_sem]
set_option maxHeartbeats 1600000 in
theorem markText_any (u : Nat) (w : World) (h1 : 1 ≤ u) (h2 : u ≤ 1000000000000) :
  Calls Tryz.prog 30 #[.int .i64 u] w fun e w' => e = .returned (sv (mtext u)) ∧ Below w.heap.size w w' := by
 have hul := dec_len18 (show u ≤ 1000000000000000000 by omega)
 have d0 : ¬ (u : Int) ≤ 0 := by omega
 go_enter Tryz.func30, Tryz.ntmps30
 go_wp2_with fail
 go_loopw [0, 3] (fun nv s wr => ∃ (v : Nat) (l : List UInt8), v ≤ u ∧ nv = .int .i64 v ∧ s = sv l ∧ Hid ((v = 0 → l = Lib.decDigits u) ∧ (0 < v → Lib.decDigits v ++ l = Lib.decDigits u)) ∧ l.length ≤ 19 ∧ Hid (Below w.heap.size w wr)) (fun nv _ _ => (intOf nv).toNat)
 case atStart => exact ⟨u, [], Nat.le_refl _, rfl, rfl, ⟨fun h => by omega, fun _ => by simp⟩, by simp, Below.refl _ _⟩
 case round =>
  obtain ⟨v, l, hv, rfl, rfl, HE, hll, HB⟩ := hrel
  by_cases hv0 : v = 0
  ·subst hv0
   have hl := HE.out.1 rfl
   subst hl
   have hcl : ¬ 9223372036854775807 < 1 + (Lib.decDigits u).length := by omega
   go_wp2_with fail
   go_ret
   exact ⟨by exact congrArg _ (sv_app [109] _), HB.out⟩
  ·have d1 : (0 : Int) < (v : Int) := by omega
   obtain ⟨r, hr⟩ : ∃ r, r = v % 10 := ⟨_, rfl⟩
   obtain ⟨q, hq⟩ : ∃ q, q = v / 10 := ⟨_, rfl⟩
   have hmod : (v : Int).tmod 10 = (r : Int) := by rw [Int.tmod_eq_emod_of_nonneg (by omega)]; omega
   have hmod2 : (v : Int) % 10 = (r : Int) := by omega
   have hdiv : (v : Int).tdiv 10 = (q : Int) := by rw [Int.tdiv_eq_ediv_of_nonneg (by omega)]; omega
   have hdiv2 : (v : Int) / 10 = (q : Int) := by omega
   have hr10 : r < 10 := by omega
   have hw8 : IntKind.u8.wrap (48 + (r : Int)) = 48 + r := by rw [IntKind.wrap]; simp [IntKind.bits, IntKind.signed] <;> omega
   have HV := Lib.hid (And.intro hr hq)
   have hcv := convM wr r hr10
   have hcl : ¬ 9223372036854775807 < 1 + l.length := by omega
   have HN : Hid ((q = 0 → UInt8.ofNat (48 + r) :: l = Lib.decDigits u) ∧ (0 < q → Lib.decDigits q ++ UInt8.ofNat (48 + r) :: l = Lib.decDigits u)) := by
    have h1 := HE.out.2 (by omega)
    constructor
    ·intro hq0
     have hv10 : v < 10 := by omega
     rw [dec_small hv10] at h1
     rw [← h1, hr, Nat.mod_eq_of_lt hv10]; rfl
    ·intro hq0
     have hv10 : ¬ v < 10 := by omega
     rw [dec_big hv10, ← hr, ← hq] at h1
     rw [← h1]; simp
   have hnl : (UInt8.ofNat (48 + r) :: l).length ≤ 19 := by
    rcases Nat.eq_zero_or_pos q with h9 | h9
    ·rw [HN.out.1 h9]; exact hul
    ·have := congrArg List.length (HN.out.2 h9)
     rw [List.length_append] at this
     omega
   clear hr hq
   go_wp2_with fail
   go_roundw
   case rel => exact ⟨q, UInt8.ofNat (48 + r) :: l, by have := HV.out.2; omega, by first | rfl | simp, by first | exact sv_app [_] l | (rw [fig_eq]; exact sv_app [_] l), HN.out, hnl, HB.out.alloc HB.out.size _⟩
   case measure => have := HV.out.2; simp [intOf]; omega
set_option maxHeartbeats 1600000 in
theorem eqStringS_same (A : Option Addr) (c : Nat) (B : Option Addr) (d : Nat) (l : List (List UInt8)) (w : World) (h : RdSt w w.heap.size A c l) (h' : RdSt w w.heap.size B d l) :
  Calls Tryz.prog 8 #[.slice A l.length c, .slice B l.length d] w fun e w' => e = .returned (.bool true) ∧ Below w.heap.size w w' := by
 obtain ⟨hl, hm⟩ := h.le
 obtain ⟨hl', hm'⟩ := h'.le
 refine post_d ?_
 go_enter Tryz.func8, Tryz.ntmps8
 go_wp2
 go_loopw [5] (fun i wr => ∃ k : Nat, k ≤ l.length ∧ i = .int .i64 k ∧ ∃ n, wr = w.drewN n) (fun i _ => l.length - (intOf i).toNat)
 case atStart => exact ⟨0, Nat.zero_le _, rfl, 0, rfl⟩
 case round =>
  obtain ⟨k, hk, rfl, n, rfl⟩ := hrel
  by_cases hlt : k < l.length
  ·obtain ⟨b, o, x, rfl, hbb, hx, hcell⟩ := h.get hlt
   obtain ⟨b', o', y, rfl, hbb', hy, hcell'⟩ := h'.get (k := k) (by omega)
   obtain rfl : x = y := Option.some.inj (hx.symm.trans hy)
   clear hx hy
   go_wp2
   go_quiet (fail)
   go_wp2
   go_roundw
   case rel => exact ⟨k + 1, by omega, by go_num, _, rfl⟩
   case measure => simp [intOf]; omega
  ·go_wp2
   go_ret
   exact ⟨rfl, n, rfl⟩
set_option maxHeartbeats 1600000 in
theorem markStringS_any (A : Option Addr) (c base : Nat) (l : List (List UInt8)) (k : Nat) (w : World) (h : OwnSt w base A c l) (h1 : 1 ≤ k) (hs : l.length + k ≤ 1048576 * 64) :
  Calls Tryz.prog 9 #[.slice A l.length c, .int .i64 k] w fun e w' => e = .returned (.int .i64 ((k + l.length : Nat) : Int)) ∧ OwnSt w' base A c (mtexts k l.length) ∧ w.grownBy w' (Value.slice A l.length c).ownBlock := by
 obtain ⟨hl, hm⟩ := h.rd.le
 go_enter Tryz.func9, Tryz.ntmps9
 go_wp2_with fail
 go_loopw [1, 5] (fun kk i wr => ∃ j : Nat, j ≤ l.length ∧ i = .int .i64 j ∧ kk = .int .i64 ((k + j : Nat) : Int) ∧ OwnSt wr base A c (mkS l k j) ∧ w.grownBy wr (Value.slice A l.length c).ownBlock) (fun _ i _ => l.length - (intOf i).toNat)
 case atStart => exact ⟨0, Nat.zero_le _, rfl, rfl, h, World.grownBy.refl _ _⟩
 case round =>
  obtain ⟨j, hj, rfl, rfl, ho, hgr⟩ := hrel
  have HG := Lib.hid hgr
  clear hgr
  have hml := mkS_len l k j hj
  by_cases hlt : j < l.length
  ·have hj0 : (0 : Int) ≤ (j : Int) := by omega
   have hj1 : (j : Int) < (l.length : Int) := by omega
   have HO := Lib.hid ho
   clear ho
   go_wp2_with fail
   refine (markText_any (k + j) _ (by omega) (by omega)).mono ?_
   rintro e w1 ⟨rfl, hb⟩
   have ho1 : w1.ownsRow base 9 1 (.slice A (mkS l k j).length c) (mkS l k j).length (strs (mkS l k j)) := own_below HO.out hb (Nat.le_refl _)
   have hg1 : w.grownBy w1 (Value.slice A l.length c).ownBlock := grownBy_trans HG.out ⟨hb.os, hb.tape, hb.output, hb.size, fun i hi _ => hb.block i hi⟩
   obtain ⟨g, hg, hgb, hgl, hfz, ⟨y, hy, _⟩, ho', hgr'⟩ := own_set ho1 (k := j) (by rw [hml]; exact hlt) (sv (mtext (k + j)))
   subst hg
   rw [← strs_set, mkS_succ l k j hlt] at ho'
   have hml2 := mkS_len l k (j + 1) (by omega)
   have H1 : Hid (OwnSt (w1.setCell ⟨g, j, none⟩ (sv (mtext (k + j)))) base (some ⟨g, 0, none⟩) c (mkS l k (j + 1)) ∧ w.grownBy (w1.setCell ⟨g, j, none⟩ (sv (mtext (k + j)))) (Value.slice (some ⟨g, 0, none⟩) l.length c).ownBlock) :=
    ⟨by unfold OwnSt; rw [hml2, ← hml]; exact ho', grownBy_trans hg1 hgr'⟩
   clear ho1 hg1 ho' hgr' hb HO HG
   go_wp2_with fail
   go_roundw
   case rel => exact ⟨j + 1, by omega, by go_num, by go_num, H1.out.1, H1.out.2⟩
   case measure => simp [intOf]; omega
  ·obtain rfl : j = l.length := by omega
   have hj1 : ¬ (l.length : Int) < (l.length : Int) := by omega
   rw [mkS_all] at ho
   have H1 := Lib.hid (And.intro HG.out ho)
   clear ho HG
   go_wp2_with fail
   go_ret
   exact ⟨rfl, H1.out.2, H1.out.1⟩
theorem markStringS_2 (A : Option Addr) (c lo hi : Nat) (l : List (List UInt8)) (k : Nat) (kz : Int) (hk : kz = k) (w : World) (h : Row2 w lo hi 9 1 A l.length c (strs l)) (hs : l.length + k ≤ 1048576 * 64) (h1 : 1 ≤ k) :
  Calls Tryz.prog 9 #[.slice A l.length c, .int .i64 kz] w fun e w' => e = .returned (.int .i64 (kz + l.length)) ∧ Row2 w' lo hi 9 1 A l.length c (strs (mtexts k l.length)) ∧ Chg lo hi w w' := by
 subst hk
 exact (markStringS_any A c lo l k w h.1 h1 hs).mono fun e w' ⟨h1, h2, h3⟩ => ⟨by rw [h1]; simp, ⟨by unfold OwnSt at h2; rw [mtexts_len] at h2; exact h2, h.2⟩, h.wrote h3⟩
set_option maxHeartbeats 1600000 in
theorem heldStringS_any (A : Option Addr) (c : Nat) (n k : Nat) (w : World) (h : RdSt w w.heap.size A c (mtexts k n)) (h1 : 1 ≤ k) (hs : n + k ≤ 1048576 * 64) :
  Calls Tryz.prog 10 #[.slice A n c, .int .i64 k] w fun e w' => e = .returned (.int .i64 ((k + n : Nat) : Int)) ∧ Below w.heap.size w w' := by
 obtain ⟨hl, hm⟩ := h.le
 rw [mtexts_len] at hl
 have hB := Below.refl w.heap.size w
 go_enter Tryz.func10, Tryz.ntmps10
 go_wp2_with fail
 go_loopw [1, 5] (fun kk i wr => ∃ j : Nat, j ≤ n ∧ i = .int .i64 j ∧ kk = .int .i64 ((k + j : Nat) : Int) ∧ Below w.heap.size w wr) (fun _ i _ => n - (intOf i).toNat)
 case atStart => exact ⟨0, Nat.zero_le _, rfl, rfl, hB⟩
 case round =>
  obtain ⟨j, hj, rfl, rfl, hB⟩ := hrel
  have hbs := hB.size
  by_cases hlt : j < n
  ·obtain ⟨b, o, x, rfl, hb, hx, hcell⟩ := h.get (k := j) (by rw [mtexts_len]; exact hlt)
   obtain rfl : x = mtext (k + j) := by
    unfold mtexts at hx; rw [List.getElem?_map, List.getElem?_range' hlt] at hx; simp at hx; exact hx.symm
   clear hx
   obtain ⟨tx, htx⟩ : ∃ tx, tx = mtext (k + j) := ⟨_, rfl⟩
   have HM := Lib.hid (fun W => markText_any (k + j) W (by omega) (by omega))
   rw [← htx] at HM hcell
   clear htx
   have f0 : wr.cell? ⟨b, o + j, none⟩ = some (sv tx) := (hB.cell (p := ⟨b, _, none⟩) hb).trans hcell
   have hbl : b < wr.heap.size := by omega
   have hj0 : (0 : Int) ≤ (j : Int) := by omega
   have hj1 : (j : Int) < (n : Int) := by omega
   have f1 : ∀ z : NewW wr, z.w.cell? ⟨b, o + j, none⟩ = some (sv tx) := fun z => (Below.cell (NewW.h z) (p := ⟨b, _, none⟩) hbl).trans f0
   go_wp2_with fail
   refine wp_region_new (by kernel_rfl) (by kernel_rfl) ?_
   repeat (go_big_quiet_step ((go_at_call 30; exact NewW.call (HM.out _))))
   refine wpQuiet_nil ?_
   intro w2 hw'
   obtain ⟨hx, hw''⟩ := hw'
   have hb2 := hx.h
   rw [← hw''] at hb2
   clear hw'' hx
   clear f1
   replace hB := hB.trans (Below.mono hb2 hB.size)
   have hz_w2 : wr.heap.size ≤ w2.heap.size := Below.size hb2
   clear hb2
   go_wp2_with fail
   go_roundw
   case rel => exact ⟨j + 1, by omega, by go_num, by go_num, hB⟩
   case measure => simp [intOf]; omega
  ·obtain rfl : j = n := by omega
   go_wp2_with fail
   go_ret
   exact ⟨rfl, hB⟩
theorem heldStringS_2 (A : Option Addr) (c lo hi : Nat) (n k : Nat) (kz : Int) (hk : kz = k) (w : World) (h : Row2 w lo hi 9 1 A n c (strs (mtexts k n))) (hs : n + k ≤ 1048576 * 64) (h1 : 1 ≤ k) :
  Calls Tryz.prog 10 #[.slice A n c, .int .i64 kz] w fun e w' => e = .returned (.int .i64 (kz + n)) ∧ Below w.heap.size w w' := by
 subst hk
 have := heldStringS_any A c n k w (by unfold RdSt; rw [mtexts_len]; exact h.rd) h1 hs
 simpa using this
end
section
open Go.ChangeShapes Go.WideShapes Go.ChangeAt Go.RowKit
set_option maxRecDepth 20000
section
variable {H : Type} {enc : TypeId × Value → H} {W : World} {base : Nat} {r : Reach}
theorem arg_string {v : Value} {d : DataW H} {p : List MemPlace} (hv : Value.okWide Tryz.prog W r base 9 v) (h : DataW.Trod enc Tryz.prog W 0 (fun _ => true) true 9 v d p) :
  ∃ s : List UInt8, v = sv s ∧ s.length ≤ 9223372036854775807 := by
 obtain ⟨s, rfl, _, _, hs⟩ := Go.ChangeMaps.open_string Tryz.underlying9 hv h
 refine ⟨s.data.toList, by simp, ?_⟩
 have e : s.data.toList.length = s.size := Array.length_toList
 unfold maxLen at hs
 omega
end
end
end Go.Proofs.YtpmmjhpmheooeaaGreatDoor
