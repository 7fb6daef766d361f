/- Texts of the proof, joined: Fields, PUint. -/
import Derived.Test.YtpmmjhpmheooeaaGreatDoorQ32
import Derived.Test.YtpmmjhpmheooeaaGreatDoorQ34
import Derived.Test.YtpmmjhpmheooeaaGreatDoorQ31
namespace Go.Proofs.YtpmmjhpmheooeaaGreatDoor
set_option linter.unusedSimpArgs false
set_option linter.unusedVariables false
section
open Go.RowKit
set_option maxRecDepth 20000
theorem take_drop_snoc {t : List UInt8} {k b : Nat} {x : UInt8} (hx : t[k]? = some x) (hb : b ≤ k) : (t.take (k + 1)).drop b = (t.take k).drop b ++ [x] := by
 have hk : k < t.length := (List.getElem?_eq_some_iff.1 hx).1
 rw [List.take_add_one, hx]
 show (t.take k ++ [x]).drop b = _
 rw [List.drop_append_of_le_length (by rw [List.length_take]; omega)]
theorem take_drop_ne {t : List UInt8} {k b : Nat} (hb : b < k) (hk : k ≤ t.length) : (t.take k).drop b ≠ [] := by
 intro e
 have := congrArg List.length e
 rw [List.length_drop, List.length_take, List.length_nil] at this
 omega
def SfRet (t : List UInt8) (w : World) (e : Ending) (w' : World) : Prop := ∃ A' c', e = .returned (.tuple #[.slice A' (sfX t).length c', .bool (sfOk t)]) ∧ OwnSt w' w.heap.size A' c' (sfX t) ∧ Below w.heap.size w w'
theorem sf_ret_no {t : List UInt8} {w w' : World} {A : Option Addr} (h : sfOk t = false) (hb : Below w.heap.size w w') (ho : OwnSt w' w.heap.size A 0 []) : SfRet t w (.returned (.tuple #[.slice A 0 0, .bool false])) w' := by
 have hx := sfX_no h
 refine ⟨A, 0, ?_, ?_, hb⟩
 ·rw [hx.1, hx.2]; rfl
 ·rw [hx.1]; exact ho
theorem sf_ret_yes {t : List UInt8} {w w' : World} {A : Option Addr} {c : Nat} {out : List (List UInt8)} (h : sfOk t = true) (he : out = fl t []) (hb : Below w.heap.size w w') (ho : OwnSt w' w.heap.size A c out) : SfRet t w (.returned (.tuple #[.slice A out.length c, .bool true])) w' := by
 have hx := sfX_yes h
 refine ⟨A, c, ?_, ?_, hb⟩
 ·rw [hx.1, hx.2, he]
 ·rw [hx.1, ← he]; exact ho
set_option maxHeartbeats 6400000 in
theorem SplitFields_ret (t : List UInt8) (w : World) :
  Calls Tryz.prog 28 #[sv t] w (SfRet t w) := by
 have hB := Below.refl w.heap.size w
 by_cases hg : 600 < t.length
 ·have HN := Lib.hid (sf_long hg)
  have e1 : (600 : Int) < (t.length : Int) := by omega
  have e2 : decide (600 < t.length) = true := decide_eq_true hg
  go_enter Tryz.func28, Tryz.ntmps28
  go_wp2_with fail
  exact bodyPost_ret (v := .tuple #[.slice none 0 0, .bool false]) (by simp [results, Tryz.results28, go_sem]) rfl (sf_ret_no HN.out hB (ownSt_nil _ _))
 have hl : t.length ≤ 600 := by omega
 have e1 : ¬ (600 : Int) < (t.length : Int) := by omega
 have e2 : decide (600 < t.length) = false := decide_eq_false hg
 go_enter Tryz.func28, Tryz.ntmps28
 go_wp2_with fail
 clear e1 e2 hg
 go_loopw [4] (fun i wr => ∃ (k : Nat), k ≤ t.length ∧ i = .int .i64 k ∧ Hid ((t.take k).all pchar = true) ∧ w = wr) (fun i _ => t.length - (intOf i).toNat)
 case atStart => exact ⟨0, Nat.zero_le _, rfl, rfl, rfl⟩
 case round =>
  obtain ⟨k, hk, rfl, HC, rfl⟩ := hrel
  have hk0 : (0 : Int) ≤ (k : Int) := by omega
  by_cases hlt : k < t.length
  ·obtain ⟨x, hxe⟩ : ∃ x, x = t[k] := ⟨_, rfl⟩
   have hx : t[k]? = some x := by rw [hxe]; exact List.getElem?_eq_getElem hlt
   have hbx : ∀ h, (⟨t.toArray⟩ : ByteArray)[k]'h = x := fun _ => by rw [hxe]; rfl
   have HX := Lib.hid hx
   have hk1 : (k : Int) < (t.length : Int) := by omega
   clear hx hxe
   by_cases h1 : (x.toNat : Int) < 32
   ·have HN := Lib.hid (sf_char HX.out (pchar_lo h1))
    have d1 : decide ((x.toNat : Int) < 32) = true := decide_eq_true h1
    have d2 : decide (x.toNat < 32) = true := decide_eq_true (by omega)
    go_wp2_with fail
    exact bodyPost_ret (v := .tuple #[.slice none 0 0, .bool false]) (by simp [results, Tryz.results28, go_sem]) rfl (sf_ret_no HN.out hB (ownSt_nil _ _))
   have d1 : decide ((x.toNat : Int) < 32) = false := decide_eq_false h1
   have d2 : decide (x.toNat < 32) = false := decide_eq_false (by omega)
   by_cases h2 : (126 : Int) < (x.toNat : Int)
   ·have HN := Lib.hid (sf_char HX.out (pchar_hi h2))
    have d3 : decide ((126 : Int) < (x.toNat : Int)) = true := decide_eq_true h2
    have d4 : decide (126 < x.toNat) = true := decide_eq_true (by omega)
    go_wp2_with fail
    exact bodyPost_ret (v := .tuple #[.slice none 0 0, .bool false]) (by simp [results, Tryz.results28, go_sem]) rfl (sf_ret_no HN.out hB (ownSt_nil _ _))
   have d3 : decide ((126 : Int) < (x.toNat : Int)) = false := decide_eq_false h2
   have d4 : decide (126 < x.toNat) = false := decide_eq_false (by omega)
   have HN : Hid ((t.take (k + 1)).all pchar = true) := by show _ = _; rw [pchars_step HX.out, HC.out, pchar_yes h1 h2]; rfl
   go_wp2_with fail
   go_roundw
   case rel => exact ⟨k + 1, by omega, by go_num, HN.out, by first | rfl | trivial⟩
   case measure => simp [intOf]; omega
  ·obtain rfl : k = t.length := by omega
   have hall := HC.out
   rw [List.take_length] at hall
   have HALL := Lib.hid hall
   have hk1 : ¬ (t.length : Int) < (t.length : Int) := by omega
   clear hall HC
   go_wp2_with fail
   clear hk1 hlt hk hk0
   go_loopw [5, 6, 7] (fun v st i wr => ∃ (k : Nat) (A' : Option Addr) (c' : Nat) (out : List (List UInt8)), k ≤ t.length + 1 ∧ out.length ≤ k ∧ i = .int .i64 k ∧ v = .slice A' out.length c' ∧ OwnSt wr w.heap.size A' c' out ∧ Below w.heap.size w wr ∧ ((st = .int .i64 (-1) ∧ Hid ((k ≤ t.length → out ++ fl (t.drop k) [] = fl t []) ∧ (t.length < k → out = fl t []))) ∨ (∃ b : Nat, b < k ∧ k ≤ t.length ∧ st = .int .i64 b ∧ Hid (out ++ fl (t.drop k) ((t.take k).drop b) = fl t [])))) (fun _ _ i _ => t.length + 1 - (intOf i).toNat)
   case atStart => exact ⟨0, none, 0, [], by omega, by simp, rfl, rfl, ownSt_nil _ _, hB, .inl ⟨rfl, ⟨fun _ => by simp, fun h => by omega⟩⟩⟩
   case round =>
    clear hB
    obtain ⟨k, A', c', out, hk, hol, rfl, rfl, ho, hB, hst⟩ := hrel
    have hbs := hB.size
    have hk0 : (0 : Int) ≤ (k : Int) := by omega
    rcases hst with ⟨rfl, HI⟩ | ⟨b, hbk, hkl, rfl, HI⟩
    ·by_cases hlt : k ≤ t.length
     ·have hk1 : (k : Int) ≤ (t.length : Int) := by omega
      by_cases heq : k = t.length
      ·subst heq
       have e1 : ((t.length : Int) == (t.length : Int)) = true := by simp
       have HN : Hid (out = fl t []) := by
        have h9 := HI.out.1 (Nat.le_refl _)
        rw [show t.drop t.length = [] from List.drop_eq_nil_of_le (Nat.le_refl _), fl_end0, List.append_nil] at h9
        exact h9
       have HO := Lib.hid (And.intro ho hB)
       clear ho hB HI
       go_wp2_with fail
       go_roundw
       case rel => exact ⟨t.length + 1, A', c', out, by omega, by omega, by go_num, rfl, HO.out.1, HO.out.2, .inl ⟨rfl, ⟨fun h => by omega, fun _ => HN.out⟩⟩⟩
       case measure => (simp [intOf]) <;> omega
      ·have hlt2 : k < t.length := by omega
       obtain ⟨x, hxe⟩ : ∃ x, x = t[k] := ⟨_, rfl⟩
       have hx : t[k]? = some x := by rw [hxe]; exact List.getElem?_eq_getElem hlt2
       have hbx : ∀ h, (⟨t.toArray⟩ : ByteArray)[k]'h = x := fun _ => by rw [hxe]; rfl
       have HX := Lib.hid hx
       have e1 : ((k : Int) == (t.length : Int)) = false := beq_eq_false_iff_ne.2 (by omega)
       have e2 : ¬ (k : Int) = (t.length : Int) := by omega
       have hk2 : (k : Int) < (t.length : Int) := by omega
       have HI1 := Lib.hid (HI.out.1 hlt)
       have HO := Lib.hid (And.intro ho hB)
       clear hx hxe HI ho hB
       by_cases hxc : x = 32
       ·have e3 : ((x.toNat : Int) == 32) = true := by rw [hxc]; rfl
        have e4 : (x.toNat : Int) = 32 := by rw [hxc]; rfl
        have HN : Hid (out ++ fl (t.drop (k + 1)) [] = fl t []) := by
         show _ = _
         rw [← HI1.out, drop_cons HX.out, hxc, fl_sp0]
        clear hxc
        go_wp2_with fail
        go_roundw
        case rel => exact ⟨k + 1, A', c', out, by omega, by omega, by go_num, rfl, HO.out.1, HO.out.2, .inl ⟨rfl, ⟨fun _ => HN.out, fun h => by omega⟩⟩⟩
        case measure => simp [intOf]; omega
       ·have e4 : ¬ (x.toNat : Int) = 32 := fun e => hxc (UInt8.toNat_inj.1 (by show x.toNat = 32; omega))
        have e3 : ((x.toNat : Int) == 32) = false := by simpa using e4
        have HN : Hid (out ++ fl (t.drop (k + 1)) ((t.take (k + 1)).drop k) = fl t []) := by
         show _ = _
         rw [← HI1.out, drop_cons HX.out, fl_ch hxc, take_drop_snoc HX.out (Nat.le_refl _), show (t.take k).drop k = [] from List.drop_eq_nil_of_le (by rw [List.length_take]; omega)]
        clear hxc
        go_wp2_with fail
        go_roundw
        case rel => exact ⟨k + 1, A', c', out, by omega, by omega, by go_num, rfl, HO.out.1, HO.out.2, .inr ⟨k, by omega, by omega, rfl, HN.out⟩⟩
        case measure => simp [intOf]; omega
     ·have hk1 : ¬ (k : Int) ≤ (t.length : Int) := by omega
      have he := HI.out.2 (by omega)
      have HE := Lib.hid he
      have HO := Lib.hid (And.intro ho hB)
      clear he ho hB HI
      by_cases hm : 24 < out.length
      ·have HN : Hid (sfOk t = false) := sf_many (by rw [← HE.out]; exact hm)
       have e1 : (24 : Int) < (out.length : Int) := by omega
       have e2 : decide (24 < out.length) = true := decide_eq_true hm
       go_wp2_with fail
       exact bodyPost_ret (v := .tuple #[.slice none 0 0, .bool false]) (by simp [results, Tryz.results28, go_sem]) rfl (sf_ret_no HN.out HO.out.2 (ownSt_nil _ _))
      ·have HN : Hid (sfOk t = true) := sf_good hl HALL.out (by rw [← HE.out]; omega)
       have e1 : ¬ (24 : Int) < (out.length : Int) := by omega
       have e2 : decide (24 < out.length) = false := decide_eq_false hm
       go_wp2_with fail
       exact bodyPost_ret (v := .tuple #[.slice A' out.length c', .bool true]) (by simp [results, Tryz.results28, go_sem]) rfl (sf_ret_yes HN.out HE.out HO.out.2 HO.out.1)
    ·have hk1 : (k : Int) ≤ (t.length : Int) := by omega
     have hb0 : (0 : Int) ≤ (b : Int) := by omega
     have hb1 : ¬ (b : Int) < 0 := by omega
     have hb2 : (b : Int) ≤ (k : Int) := by omega
     have hne := take_drop_ne hbk hkl
     by_cases heq : k = t.length
     ·subst heq
      have e1 : ((t.length : Int) == (t.length : Int)) = true := by simp
      obtain ⟨pc, hpc⟩ : ∃ pc, pc = (t.take t.length).drop b := ⟨_, rfl⟩
      have e5 : (⟨t.toArray⟩ : ByteArray).extract b t.length = ⟨pc.toArray⟩ := by rw [hpc]; exact ext_b t b t.length
      have HN : Hid (out ++ [pc] = fl t []) := by
       show _ = _
       rw [← HI.out, hpc, show t.drop t.length = [] from List.drop_eq_nil_of_le (Nat.le_refl _), fl_end1 hne]
      clear hpc HI hne
      have ho1 : OwnSt (wr.alloc (.cells #[sv pc] 9)) w.heap.size A' c' out := World.ownsRow.alloc ho _
      clear ho
      go_wp2_with (at_builtin; refine wpList_appSt rfl _ _ rfl w.heap.size A' c' out rfl ho1 wr.heap.size pc rfl (cell_new1 _ _ _) (by omega) (by exact oT) ?_)
      intro A3 c3 w3 ho3 hg3
      have hB3 := below_grown_own (hB.alloc hbs (.cells #[sv pc] 9)) ho1 hg3 (Nat.le_refl _) (by exact oT)
      have H3 := Lib.hid (And.intro ho3 hB3)
      clear ho3 hB3 hg3 ho1
      go_wp2_with fail
      go_roundw
      case rel => exact ⟨t.length + 1, A3, c3, out ++ [pc], by omega, by rw [List.length_append, List.length_singleton]; omega, by go_num, by rw [List.length_append]; rfl, H3.out.1, H3.out.2, .inl ⟨rfl, ⟨fun h => by omega, fun _ => HN.out⟩⟩⟩
      case measure => (simp [intOf]) <;> omega
     ·have hlt2 : k < t.length := by omega
      obtain ⟨x, hxe⟩ : ∃ x, x = t[k] := ⟨_, rfl⟩
      have hx : t[k]? = some x := by rw [hxe]; exact List.getElem?_eq_getElem hlt2
      have hbx : ∀ h, (⟨t.toArray⟩ : ByteArray)[k]'h = x := fun _ => by rw [hxe]; rfl
      have HX := Lib.hid hx
      have e1 : ((k : Int) == (t.length : Int)) = false := beq_eq_false_iff_ne.2 (by omega)
      have e2 : ¬ (k : Int) = (t.length : Int) := by omega
      have hk2 : (k : Int) < (t.length : Int) := by omega
      clear hx hxe
      by_cases hxc : x = 32
      ·have e3 : ((x.toNat : Int) == 32) = true := by rw [hxc]; rfl
       have e4 : (x.toNat : Int) = 32 := by rw [hxc]; rfl
       obtain ⟨pc, hpc⟩ : ∃ pc, pc = (t.take k).drop b := ⟨_, rfl⟩
       have e5 : (⟨t.toArray⟩ : ByteArray).extract b k = ⟨pc.toArray⟩ := by rw [hpc]; exact ext_b t b k
       have HN : Hid ((out ++ [pc]) ++ fl (t.drop (k + 1)) [] = fl t []) := by
        show _ = _
        rw [← HI.out, drop_cons HX.out, hxc, fl_sp1 hne, hpc]; simp
       clear hpc HI hne hxc
       have ho1 : OwnSt (wr.alloc (.cells #[sv pc] 9)) w.heap.size A' c' out := World.ownsRow.alloc ho _
       clear ho
       go_wp2_with (at_builtin; refine wpList_appSt rfl _ _ rfl w.heap.size A' c' out rfl ho1 wr.heap.size pc rfl (cell_new1 _ _ _) (by omega) (by exact oT) ?_)
       intro A3 c3 w3 ho3 hg3
       have hB3 := below_grown_own (hB.alloc hbs (.cells #[sv pc] 9)) ho1 hg3 (Nat.le_refl _) (by exact oT)
       have H3 := Lib.hid (And.intro ho3 hB3)
       clear ho3 hB3 hg3 ho1
       go_wp2_with fail
       go_roundw
       case rel => exact ⟨k + 1, A3, c3, out ++ [pc], by omega, by rw [List.length_append, List.length_singleton]; omega, by go_num, by rw [List.length_append]; rfl, H3.out.1, H3.out.2, .inl ⟨rfl, ⟨fun _ => HN.out, fun h => by omega⟩⟩⟩
       case measure => simp [intOf]; omega
      ·have e4 : ¬ (x.toNat : Int) = 32 := fun e => hxc (UInt8.toNat_inj.1 (by show x.toNat = 32; omega))
       have e3 : ((x.toNat : Int) == 32) = false := by simpa using e4
       have HN : Hid (out ++ fl (t.drop (k + 1)) ((t.take (k + 1)).drop b) = fl t []) := by
        show _ = _
        rw [← HI.out, drop_cons HX.out, fl_ch hxc, take_drop_snoc HX.out (by omega)]
       have HO := Lib.hid (And.intro ho hB)
       clear hxc HI hne ho hB
       go_wp2_with fail
       go_roundw
       case rel => exact ⟨k + 1, A', c', out, by omega, by omega, by go_num, rfl, HO.out.1, HO.out.2, .inr ⟨b, by omega, by omega, rfl, HN.out⟩⟩
       case measure => simp [intOf]; omega
theorem SplitFields_any (t : List UInt8) (w : World) :
  Calls Tryz.prog 28 #[sv t] w fun e w' => ∃ A' c', e = .returned (.tuple #[.slice A' (sfX t).length c', .bool (sfOk t)]) ∧ OwnSt w' w.heap.size A' c' (sfX t) ∧ Below w.heap.size w w' := SplitFields_ret t w
end
section
open Go.RowKit
set_option maxRecDepth 20000
theorem dig_no_lt {b : UInt8} (h : (b.toNat : Int) < 48) : dig b = false := by unfold dig; simp; omega
theorem dig_no_gt {b : UInt8} (h : ¬ (b.toNat : Int) < 48) (h2 : (57 : Int) < b.toNat) : dig b = false := by unfold dig; simp; omega
theorem dig_yes {b : UInt8} (h : ¬ (b.toNat : Int) < 48) (h2 : ¬ (57 : Int) < b.toNat) : dig b = true := by unfold dig; simp; omega
set_option maxHeartbeats 3200000 in
theorem ParseUint_any (s : List UInt8) (w : World) (ht : Tab w) (hs : s.length ≤ 9223372036854775807) :
  Calls Tryz.prog 54 #[sv s] w fun e w' => e = .returned (.tuple #[.int .i64 (puVal s), .bool (puOk s)]) ∧ Below w.heap.size w w' := by
 have hB := Below.refl w.heap.size w
 by_cases hbig : 10 < s.length
 ·have HK := Lib.hid (pu_long hbig)
  have HV := Lib.hid (puVal_no HK.out)
  have d1 : ¬ (s.length : Int) < 1 := by omega
  have d2 : decide ((s.length : Int) < 1) = false := by simpa using d1
  have d3 : (10 : Int) < (s.length : Int) := by omega
  have d4 : decide ((10 : Int) < (s.length : Int)) = true := by simpa using d3
  have d5 : decide (s.length < 1) = false := decide_eq_false (by omega)
  have d6 : decide (10 < s.length) = true := by simpa using hbig
  have d7 : ¬ s.length = 0 := by omega
  go_enter Tryz.func54, Tryz.ntmps54
  go_wp2_with fail
  exact bodyPost_ret (v := .tuple #[.int .i64 0, .bool false]) (by simp [results, Tryz.results54, go_sem]) rfl ⟨by rw [HV.out, HK.out]; rfl, hB⟩
 by_cases h0 : s.length = 0
 ·obtain rfl : s = [] := List.eq_nil_of_length_eq_zero h0
  have HK := Lib.hid pu_empty
  have HV := Lib.hid (puVal_no HK.out)
  clear h0 hbig
  go_enter Tryz.func54, Tryz.ntmps54
  go_wp2_with fail
  exact bodyPost_ret (v := .tuple #[.int .i64 0, .bool false]) (by simp [results, Tryz.results54, go_sem]) rfl ⟨by rw [HV.out, HK.out]; rfl, hB⟩
 have d1 : ¬ (s.length : Int) < 1 := by omega
 have d2 : decide ((s.length : Int) < 1) = false := by simpa using d1
 have d3 : ¬ (10 : Int) < (s.length : Int) := by omega
 have d4 : decide ((10 : Int) < (s.length : Int)) = false := by simpa using d3
 have d5 : decide (s.length < 1) = false := decide_eq_false (by omega)
 have d6 : decide (10 < s.length) = false := by simpa using hbig
 go_enter Tryz.func54, Tryz.ntmps54
 go_wp2_with fail
 go_loopw [4, 5] (fun v i wr => ∃ (k : Nat), k ≤ s.length ∧ i = .int .i64 k ∧ v = .int .i64 (pval 0 (s.take k) : Nat) ∧ Hid ((s.take k).all dig = true) ∧ Below w.heap.size w wr) (fun _ i _ => s.length - (intOf i).toNat)
 case atStart => exact ⟨0, Nat.zero_le _, rfl, rfl, rfl, hB⟩
 case round =>
  obtain ⟨k, hk, rfl, rfl, HD, hB⟩ := hrel
  have hbs := hB.size
  have hpv := take_digs HD.out (by omega : s.length ≤ 10)
  by_cases hlt : k < s.length
  ·obtain ⟨b, hb⟩ : ∃ b, b = s[k] := ⟨_, rfl⟩
   have hx : s[k]? = some b := by rw [hb]; exact List.getElem?_eq_getElem hlt
   have hbk : ∀ h, (⟨s.toArray⟩ : ByteArray)[k]'h = b := fun _ => by rw [hb]; rfl
   have HX := Lib.hid hx
   have hst := pval_step hx
   have hdd := digs_step hx
   rw [HD.out, Bool.true_and] at hdd
   have HST := Lib.hid hst
   have HDD := Lib.hid hdd
   obtain ⟨p, hp⟩ : ∃ p, p = pval 0 (s.take k) := ⟨_, rfl⟩
   rw [← hp] at hpv HST ⊢
   clear hb hx hst hdd hp HD
   have hk0 : (0 : Int) ≤ (k : Int) := by omega
   have hk1 : (k : Int) < (s.length : Int) := by omega
   have hb255 : b.toNat < 256 := UInt8.toNat_lt b
   by_cases c1 : (b.toNat : Int) < 48
   ·have HK := Lib.hid (pu_nodig HX.out (dig_no_lt c1))
    have HV := Lib.hid (puVal_no HK.out)
    have c1' : decide ((b.toNat : Int) < 48) = true := decide_eq_true c1
    go_wp2_with fail
    exact bodyPost_ret (v := .tuple #[.int .i64 0, .bool false]) (by simp [results, Tryz.results54, go_sem]) rfl ⟨by rw [HV.out, HK.out]; rfl, hB⟩
   have c1' : decide ((b.toNat : Int) < 48) = false := decide_eq_false c1
   by_cases c2 : (57 : Int) < b.toNat
   ·have HK := Lib.hid (pu_nodig HX.out (dig_no_gt c1 c2))
    have HV := Lib.hid (puVal_no HK.out)
    have c2' : decide ((57 : Int) < b.toNat) = true := decide_eq_true c2
    go_wp2_with fail
    exact bodyPost_ret (v := .tuple #[.int .i64 0, .bool false]) (by simp [results, Tryz.results54, go_sem]) rfl ⟨by rw [HV.out, HK.out]; rfl, hB⟩
   have c2' : decide ((57 : Int) < b.toNat) = false := decide_eq_false c2
   have HN : Hid ((s.take (k + 1)).all dig = true) := HDD.out.trans (dig_yes c1 c2)
   go_wp2_with fail
   go_roundw
   case rel => exact ⟨k + 1, by omega, by go_num, by rw [HST.out]; refine congrArg _ ?_; omega, HN, hB⟩
   case measure => simp [intOf]; omega
  ·have hk1 : ¬ (k : Int) < (s.length : Int) := by omega
   obtain rfl : k = s.length := by omega
   rw [List.take_length] at HD hpv ⊢
   obtain ⟨p, hp⟩ : ∃ p, p = pval 0 s := ⟨_, rfl⟩
   rw [← hp] at hpv ⊢
   have HP := Lib.hid hp
   clear hp
   by_cases c1 : 1000000000 < p
   ·have HK : Hid (puOk s = false) := by show _ = _; unfold puOk; rw [← HP.out, decide_eq_false (show ¬ p ≤ 1000000000 by omega)]; simp
    have HV := Lib.hid (puVal_no HK.out)
    have e1 : (1000000000 : Int) < (p : Int) := by omega
    have e2 : decide ((1000000000 : Int) < (p : Int)) = true := decide_eq_true e1
    have e3 : decide (1000000000 < p) = true := decide_eq_true c1
    go_wp2_with fail
    exact bodyPost_ret (v := .tuple #[.int .i64 0, .bool false]) (by simp [results, Tryz.results54, go_sem]) rfl ⟨by rw [HV.out, HK.out]; rfl, hB⟩
   have e1 : ¬ (1000000000 : Int) < (p : Int) := by omega
   have e2 : decide ((1000000000 : Int) < (p : Int)) = false := decide_eq_false e1
   have e3 : decide (1000000000 < p) = false := decide_eq_false c1
   have HF := Lib.hid (FormatInt_t (p : Int) wr (by omega) (ht.below hB))
   by_cases c2 : Lib.itoa p = s
   ·have HK : Hid (puOk s = true) := by show _ = _; unfold puOk; rw [← HP.out, decide_eq_true (show p ≤ 1000000000 by omega), decide_eq_true c2, decide_eq_true (show s.length ≤ 10 by omega), HD.out]; rfl
    have HV : Hid (puVal s = p) := by show _ = _; rw [puVal_yes HK.out, HP.out]
    rw [c2] at HF
    clear c2
    go_wp2_with fail
    refine HF.out.mono ?_
    rintro e w2 ⟨rfl, hb⟩
    replace hB := hB.trans (Below.mono hb hB.size)
    have hz_w2 : wr.heap.size ≤ w2.heap.size := Below.size hb
    clear hb
    go_wp2_with fail
    exact bodyPost_ret (v := .tuple #[.int .i64 p, .bool true]) (by simp [results, Tryz.results54, go_sem]) rfl ⟨by rw [HV.out, HK.out], hB⟩
   ·have HK : Hid (puOk s = false) := by show _ = _; unfold puOk; rw [← HP.out, decide_eq_false c2]; simp
    have HV := Lib.hid (puVal_no HK.out)
    obtain ⟨t, htt⟩ : ∃ t, t = Lib.itoa (p : Int) := ⟨_, rfl⟩
    rw [← htt] at HF c2
    clear htt
    have c3 : (t == s) = false := by simpa using c2
    go_wp2_with fail
    refine HF.out.mono ?_
    rintro e w2 ⟨rfl, hb⟩
    replace hB := hB.trans (Below.mono hb hB.size)
    have hz_w2 : wr.heap.size ≤ w2.heap.size := Below.size hb
    clear hb
    go_wp2_with fail
    exact bodyPost_ret (v := .tuple #[.int .i64 0, .bool false]) (by simp [results, Tryz.results54, go_sem]) rfl ⟨by rw [HV.out, HK.out]; rfl, hB⟩
end
end Go.Proofs.YtpmmjhpmheooeaaGreatDoor
