/- Texts of the proof, joined: ParseS. -/
import Derived.Test.YtpmmjhpmheooeaaGreatDoorP42
import Derived.Deep.DeepCutAuto
namespace Go.Proofs.YtpmmjhpmheooeaaGreatDoor
set_option linter.unusedSimpArgs false
set_option linter.unusedVariables false
section
open Go.RowKit
set_option maxRecDepth 20000
theorem pu_bd (s : List UInt8) : puVal s ≤ 1000000000 := by
 cases h : puOk s
 ·rw [puVal_no h]; omega
 ·exact (pu_iff h).2
theorem sv_minus {s : List UInt8} {x : UInt8} (h : s[0]? = some x) : s.head? = some x := by rw [List.head?_eq_getElem?]; exact h
set_option maxHeartbeats 3200000 in
theorem l40Number_any (s : List UInt8) (w : World) (ht : Tab w) (hs : s.length ≤ 1048576) :
  Calls Tryz.prog 44 #[sv s] w fun e w' => e = .returned (.int .i64 (psN s)) ∧ Below w.heap.size w w' := by
 have hB := Below.refl w.heap.size w
 have HP := Lib.hid (fun W (h : Tab W) => ParseUintS_any s W h (by omega))
 by_cases h1 : 1 < s.length
 ·have i1 : (1 : Int) < (s.length : Int) := by omega
  have i2 : decide (1 < s.length) = true := decide_eq_true h1
  have i3 : (0 : Int) < (s.length : Int) := by omega
  obtain ⟨x, hxe⟩ : ∃ x, x = s[0] := ⟨_, rfl⟩
  have hx : s[0]? = some x := by rw [hxe]; exact List.getElem?_eq_getElem (by omega)
  have hbx : ∀ h, (⟨s.toArray⟩ : ByteArray)[0]'h = x := fun _ => by rw [hxe]; rfl
  have hh := sv_minus hx
  clear hxe hx
  by_cases hxc : x = 45
  ·have e4 : (x.toNat : Int) = 45 := by rw [hxc]; rfl
   have e3 : ((x.toNat : Int) == 45) = true := by rw [e4]; rfl
   obtain ⟨t, htd⟩ : ∃ t, t = s.drop 1 := ⟨_, rfl⟩
   have e5 : (⟨s.toArray⟩ : ByteArray).extract 1 s.length = ⟨t.toArray⟩ := by rw [ext_b, List.take_length, htd]
   have HN : Hid (psN s = -(puVal t : Int)) := by
    show _ = _
    unfold psN
    rw [hh, hxc, decide_eq_true h1, htd]; rfl
   have HP2 := Lib.hid (fun W (h : Tab W) => ParseUintS_any t W h (by rw [htd, List.length_drop]; omega))
   have hpb := pu_bd t
   have hwn : IntKind.i64.wrap (-(puVal t : Int)) = -(puVal t : Int) := IntWalk.i64_in _ (by omega)
   rw [HN.out]
   clear htd hh hxc HP HN
   go_enter Tryz.func44, Tryz.ntmps44
   go_wp2_with fail
   refine (HP2.out _ ht).mono ?_
   rintro e w1 ⟨rfl, hb⟩
   go_wp2_with fail
   go_ret
   exact ⟨rfl, hb⟩
  ·have e4 : ¬ (x.toNat : Int) = 45 := fun e => hxc (UInt8.toNat_inj.1 (by show x.toNat = 45; omega))
   have e3 : ((x.toNat : Int) == 45) = false := by simpa using e4
   have HN : Hid (psN s = (puVal s : Int)) := by
    show _ = _
    unfold psN
    rw [hh, if_neg (by simp; intro _ h9; exact hxc h9)]
   rw [HN.out]
   clear hh hxc HN
   go_enter Tryz.func44, Tryz.ntmps44
   go_wp2_with fail
   refine (HP.out _ ht).mono ?_
   rintro e w1 ⟨rfl, hb⟩
   go_wp2_with fail
   go_ret
   exact ⟨rfl, hb⟩
 ·have i1 : ¬ (1 : Int) < (s.length : Int) := by omega
  have i2 : decide (1 < s.length) = false := decide_eq_false h1
  have HN : Hid (psN s = (puVal s : Int)) := by
   show _ = _
   unfold psN
   rw [if_neg (by simp; omega)]
  rw [HN.out]
  clear h1 HN
  go_enter Tryz.func44, Tryz.ntmps44
  go_wp2_with fail
  refine (HP.out _ ht).mono ?_
  rintro e w1 ⟨rfl, hb⟩
  go_wp2_with fail
  go_ret
  exact ⟨rfl, hb⟩
theorem psn_at (ps : List (List UInt8)) (h : 1 ≤ ps.length) : (((ps.drop 1).map psN) ++ [0, 0])[0]? = some (psN (ps.getD 1 [])) ∧ (((ps.drop 1).map psN) ++ [0, 0])[1]? = some (psN (ps.getD 2 [])) := by
 match ps, h with
 | [a], _ => exact ⟨by show some (0 : Int) = some (psN []); rw [psN_nil], by show some (0 : Int) = some (psN []); rw [psN_nil]⟩
 | [a, b], _ => exact ⟨rfl, by show some (0 : Int) = some (psN []); rw [psN_nil]⟩
 |a :: b :: c :: r, _ => exact ⟨rfl, rfl⟩
theorem sv_join (a b : List UInt8) : Value.string (⟨a.toArray⟩ ++ ⟨#[32]⟩ ++ ⟨b.toArray⟩) = sv (a ++ ([32] ++ b)) := by
 refine congrArg _ (ByteArray.ext ?_)
 simp
theorem join_next {ps : List (List UInt8)} {k : Nat} {x : List UInt8} (h : ps[k]? = some x) (hk : 1 ≤ k) : Lib.join (ps.take (k + 1)) [32] = Lib.join (ps.take k) [32] ++ ([32] ++ x) := by
 have hl : k < ps.length := (List.getElem?_eq_some_iff.1 h).1
 rw [List.take_add_one, h]
 refine join_snoc _ _ (fun h0 => ?_)
 have := congrArg List.length h0
 rw [List.length_take, List.length_nil] at this
 omega
theorem join_first {ps : List (List UInt8)} {x : List UInt8} (h : ps[0]? = some x) : Lib.join (ps.take 1) [32] = x := by
 rw [List.take_add_one, h]
 show Lib.join [x] [32] = x
 rw [Lib.join_cons]; simp [Lib.joinTail]
theorem psm_next {ps : List (List UInt8)} {k : Nat} {x : List UInt8} (h : ps[k]? = some x) (hk : 1 ≤ k) : ((ps.take (k + 1)).drop 1).map psN = ((ps.take k).drop 1).map psN ++ [psN x] := by
 have hl : k < ps.length := (List.getElem?_eq_some_iff.1 h).1
 rw [List.take_add_one, h, List.drop_append_of_le_length (by rw [List.length_take]; omega), List.map_append]; rfl
theorem ints_one9 : ∀ l : List Int, ∀ u ∈ ints l, u.oneCell' = true := by
 intro l u hu
 unfold ints at hu
 obtain ⟨x, -, rfl⟩ := List.mem_map.1 hu
 rfl
theorem ints_app9 (l m : List Int) : ints (l ++ m) = ints l ++ ints m := by unfold ints; rw [List.map_append]
theorem row_two9 (w : World) (base : Nat) (x y : Int) (hb : base ≤ w.heap.size) : (w.alloc (.cells #[.int .i64 x, .int .i64 y] 3)).ownsRow base 3 1 (.slice (some ⟨w.heap.size, 0, none⟩) 2 2) 2 (ints [x, y]) :=
 ⟨rfl, .inr ⟨w.heap.size, 2, #[.int .i64 x, .int .i64 y], rfl, hb, heap_alloc_new w _, Nat.le_refl _, by unfold maxLen; omega, rfl, rfl⟩⟩
theorem hit_none {ps : List (List UInt8)} (h : ∀ j : Nat, 1 ≤ j → j < 7 → psHit ps (j : Int) = false) (hy : paOkF ps = true → psHit ps (paK ps) = true ∧ psN (ps.getD 1 []) = paA ps ∧ psN (ps.getD 2 []) = paB ps) : paOkF ps = false := by
 cases hp : paOkF ps
 ·rfl
 ·exfalso
  have h1 := (hy hp).1
  have h2 := h1
  unfold psHit at h2
  simp only [Bool.and_eq_true] at h2
  obtain ⟨n, hn⟩ : ∃ n : Nat, paK ps = (n : Int) ∧ 1 ≤ n ∧ n < 7 := by
   rcases (actOk_cases h2.1).1 with e | e | e | e | e | e
   ·exact ⟨1, e, by omega, by omega⟩
   ·exact ⟨2, e, by omega, by omega⟩
   ·exact ⟨3, e, by omega, by omega⟩
   ·exact ⟨4, e, by omega, by omega⟩
   ·exact ⟨5, e, by omega, by omega⟩
   ·exact ⟨6, e, by omega, by omega⟩
  rw [hn.1, h n hn.2.1 hn.2.2] at h1
  cases h1
set_option maxHeartbeats 6400000 in
theorem ParseActS_ret (t : List UInt8) (w : World) (ht : Tab w) (hs : t.length ≤ 1048576) :
  Calls Tryz.prog 22 #[sv t] w (PaRet t w) := by
 have hB := Below.refl w.heap.size w
 have HSF := Lib.hid (fun W => SplitFieldsS_any t W)
 have hmem := sfX_mem t
 have hpi : ∀ k, psHit (sfX t) k = true → paOkF (sfX t) = true ∧ k = paK (sfX t) := fun k h => hit_only (fun y hy => (sfX_mem t y hy).1) h
 have hpy : paOkF (sfX t) = true → psHit (sfX t) (paK (sfX t)) = true ∧ psN ((sfX t).getD 1 []) = paA (sfX t) ∧ psN ((sfX t).getD 2 []) = paB (sfX t) := fun h => hit_yes h
 have hpI : paI t = (sfOk t && paOkF (sfX t)) := rfl
 obtain ⟨ok, hok⟩ : ∃ ok, ok = sfOk t := ⟨_, rfl⟩
 obtain ⟨ps, hps⟩ : ∃ ps, ps = sfX t := ⟨_, rfl⟩
 rw [← hok, ← hps] at HSF
 rw [← hps] at hmem hpi hpy
 rw [← hok, ← hps] at hpI
 have HOK := Lib.hid hok
 have HPS := Lib.hid hps
 have HMEM := Lib.hid hmem
 have HPI := Lib.hid hpi
 have HPY := Lib.hid hpy
 have HPE := Lib.hid hpI
 have HTZ : Hid (∀ W, Below w.heap.size w W → Tab W) := fun W hb => ht.below hb
 clear hok hps hmem hpi hpy hpI
 go_enter Tryz.func22, Tryz.ntmps22
 go_wp2_with fail
 first | refine name_world ?_ | refine name_wp ?_
 intro W1 hW
 replace hB : Below w.heap.size w W1 := by rw [hW]; exact tacT
 have hz_W1 : w.heap.size ≤ W1.heap.size := by rw [hW]; exact sT
 replace kb_r : Blk W1 (w.heap.size) 50 #[.int .i64 0, .int .i64 0, .int .i64 0] := by rw [hW]; exact blkT
 have hLW1_r := kb_r.lt
 try clear kc_r kf_r
 clear hW
 refine (HSF.out _).mono ?_
 rintro e w1 ⟨A1, c1, rfl, ho1, hb⟩
 replace hB := hB.trans (Below.mono hb hB.size)
 have hz_w1 : W1.heap.size ≤ w1.heap.size := Below.size hb
 replace kb_r := kb_r.mv hb; obtain ⟨kb_r, kc_r, kf_r, hl_r, hn_r⟩ := kb_r
 clear hb
 clear HSF
 cases ok
 ·have HN := Lib.hid (paI_noOk HOK.out.symm)
  go_wp2_with fail
  exact bodyPost_ret (v := .tuple #[.agg #[.int .i64 0, .int .i64 0, .int .i64 0], .bool false]) (by simp [results, Tryz.results22, go_sem, kc_r, hl_r, hn_r]) rfl (pa_ret_no HN.out (by exact tacT))
 by_cases hl : 1 ≤ ps.length ∧ ps.length ≤ 3
 case neg =>
  have HN := Lib.hid (paI_few (t := t) (by rw [← HPS.out]; exact hl))
  have e1 : inB (ps.length : Int) 1 3 = false := by unfold inB; simp; omega
  go_wp2_with (go_at_call 43; refine (l01In_any _ _ _ _).mono ?_; rintro e w' ⟨rfl, rfl⟩)
  exact bodyPost_ret (v := .tuple #[.agg #[.int .i64 0, .int .i64 0, .int .i64 0], .bool false]) (by simp [results, Tryz.results22, go_sem, kc_r, hl_r, hn_r]) rfl (pa_ret_no HN.out (by exact tacT))
 have e1 : inB (ps.length : Int) 1 3 = true := by unfold inB; simp; omega
 obtain ⟨hl1, hl3⟩ := hl
 obtain ⟨b1, cur, rfl, hb1, kb_p, hc1, hcap⟩ := sown_blk ho1 (by omega)
 have HC1 := Lib.hid hc1
 have hl_p := kb_p.lt
 obtain ⟨y, hy⟩ : ∃ y, ps[0]? = some y := ⟨_, List.getElem?_eq_getElem (by omega)⟩
 have f0 : w1.cell? ⟨b1, 0, none⟩ = some (sv y) := (kb_p.cell 0).trans (hc1 0 y hy)
 have hp0 : (0 : Int) < (ps.length : Int) := by omega
 have HJ1 := Lib.hid (join_first hy)
 have hz0 : w.heap.size < b1 := by omega
 clear ho1 hc1 hy hb1
 go_wp2_with (go_at_call 43; refine (l01In_any _ _ _ _).mono ?_; rintro e w' ⟨rfl, rfl⟩)
 have HO0 : Hid (OwnI (w1.alloc (.cells #[] 3)) w1.heap.size (some ⟨w1.heap.size, 0, none⟩) 0 []) := ownEmpty w1 w1.heap.size 3 1 (Nat.le_refl _)
 have hB1 := Below.refl w1.heap.size w1
 clear f0 hp0
 go_loopw [6, 7, 8] (fun sx nv kv wr => ∃ (k : Nat) (A' : Option Addr) (c' : Nat) (nl : List Int), 1 ≤ k ∧ k ≤ ps.length ∧ kv = .int .i64 k ∧ sx = sv (Lib.join (ps.take k) [32]) ∧ nv = .slice A' nl.length c' ∧ Hid (nl = ((ps.take k).drop 1).map psN) ∧ nl.length ≤ 3 ∧ Hid (OwnI wr w1.heap.size A' c' nl) ∧ Below w1.heap.size w1 wr) (fun _ _ kv _ => ps.length - (intOf kv).toNat)
 case atStart => exact ⟨1, _, 0, [], Nat.le_refl _, hl1, rfl, by rw [HJ1.out], rfl, by (show _ = _; rw [List.drop_eq_nil_of_le (by rw [List.length_take]; omega)]; rfl), by simp, HO0.out, by exact tacT⟩
 case round =>
  clear HO0 hB1
  obtain ⟨k, A', c', nl, hk1, hk, rfl, rfl, rfl, HL, hnl, HO, hBr⟩ := hrel
  have hbs := hBr.size
  have kb_q := kb_p.below hBr hl_p
  have hbq : b1 < wr.heap.size := by omega
  have hbne : b1 ≠ wr.heap.size := by omega
  by_cases hlt : k < ps.length
  ·obtain ⟨x, hx⟩ : ∃ x, ps[k]? = some x := ⟨_, List.getElem?_eq_getElem hlt⟩
   have f0 : wr.cell? ⟨b1, k, none⟩ = some (sv x) := (kb_q.cell k).trans (HC1.out k x hx)
   have hk0 : (0 : Int) ≤ (k : Int) := by omega
   have hki : (k : Int) < (ps.length : Int) := by omega
   have hxl := (HMEM.out x (List.mem_of_getElem? hx)).2
   have hjl := join_lenM 1048576 (ps.take k) (fun z hz => by have := (HMEM.out z (List.mem_of_mem_take hz)).2; omega)
   have htk : (ps.take k).length ≤ 3 := by rw [List.length_take]; omega
   have hjn := join_next hx hk1
   obtain ⟨js, hjs⟩ : ∃ js, js = Lib.join (ps.take k) [32] := ⟨_, rfl⟩
   rw [← hjs] at hjl hjn ⊢
   have hjl2 : js.length ≤ 4000000 := by
    have : (ps.take k).length * (1048576 + 1) ≤ 3 * (1048576 + 1) := Nat.mul_le_mul_right _ htk
    omega
   have hpm := psm_next hx hk1
   rw [← HL.out] at hpm
   have HN := Lib.hid (And.intro hjn hpm)
   have HP := Lib.hid (fun (W : World) (h : Tab W) => l40Number_any x W h (by omega))
   have c1 : ¬ 9223372036854775807 < js.length + 1 := by omega
   have c2 : ¬ 9223372036854775807 < js.length + 1 + x.length := by omega
   have HTQ := Lib.hid (HTZ.out _ (hB.trans (hBr.mono hB.size)))
   clear hx hjn hpm hjs hjl htk HL
   go_wp2_with fail
   refine (HP.out _ HTQ.out).mono ?_
   rintro e w3 ⟨rfl, hb⟩
   have ho6 : OwnI (w3.alloc (.cells #[.int .i64 (psN x)] 3)) w1.heap.size A' c' nl := World.ownsRow.alloc (own_below HO.out hb (Nat.le_refl _)) _
   have hB3 := hBr.trans (hb.mono hBr.size)
   have hbs3 := hB3.size
   clear hb HO hBr kb_q f0
   go_wp2_with (at_builtin; refine wpList_app1 rfl _ _ rfl w1.heap.size A' c' nl rfl ho6 w3.heap.size _ rfl (cell_new1 _ _ _) (by omega) (by exact oT) ?_)
   intro A4 c4 w4 ho4 hg4
   have hB4 := below_grown_own (hB3.alloc hbs3 (.cells #[.int .i64 (psN x)] 3)) ho6 hg4 (Nat.le_refl _) (by exact oT)
   have H4 := Lib.hid (And.intro ho4 hB4)
   clear ho4 hB4 hg4 ho6
   go_wp2_with fail
   go_roundw
   case rel => exact ⟨k + 1, A4, c4, nl ++ [psN x], by omega, by omega, by go_num, by rw [HN.out.1]; exact sv_join _ _, by rw [List.length_append]; rfl, HN.out.2.symm, by (have h9 := congrArg List.length HN.out.2; rw [List.length_map, List.length_drop, List.length_take] at h9; omega), H4.out.1, H4.out.2⟩
   case measure => simp [intOf]; omega
  ·obtain rfl : k = ps.length := by omega
   have hk9 : ¬ (ps.length : Int) < (ps.length : Int) := by omega
   have hnl2 := HL.out
   rw [List.take_length] at hnl2 ⊢
   obtain ⟨jn, hjn⟩ : ∃ jn, jn = Lib.join ps [32] := ⟨_, rfl⟩
   rw [← hjn]
   have HJN := Lib.hid hjn
   clear hjn
   have hat := psn_at ps hl1
   rw [← hnl2] at hat
   have HAT := Lib.hid hat
   have ho6 : OwnI (wr.alloc (.cells #[.int .i64 0, .int .i64 0] 3)) w1.heap.size A' c' nl := World.ownsRow.alloc HO.out _
   have hr6 : Rd (wr.alloc (.cells #[.int .i64 0, .int .i64 0] 3)) (wr.alloc (.cells #[.int .i64 0, .int .i64 0] 3)).heap.size 1 (some ⟨wr.heap.size, 0, none⟩) 2 2 (ints [0, 0]) := Rd.of_own (row_two9 wr wr.heap.size 0 0 (Nat.le_refl _))
   clear HL hnl2 hat HO
   go_wp2_with (at_builtin; refine wpList_appAll rfl _ _ 41 rfl w1.heap.size 3 (.int .i64 0) 1 8 Tryz.underlying41 infoI rfl (by decide) (.slice A' nl.length c') nl.length (ints nl) rfl ho6 _ (some ⟨wr.heap.size, 0, none⟩) 2 2 (ints [0, 0]) rfl hr6 (ints_one9 _) (by omega) (by omega) (by exact ooT) ?_)
   intro A4 c4 w4 ho4 hg4
   have hB4 := below_grown_own (hBr.alloc hbs (.cells #[.int .i64 0, .int .i64 0] 3)) ho6 hg4 (Nat.le_refl _) (by exact oT)
   have hB4w := hB.trans (hB4.mono hB.size)
   rw [← ints_app9] at ho4
   have hrd : RdI w4 w4.heap.size A4 c4 (nl ++ [0, 0]) := by
    have h9 := Rd.of_own ho4
    unfold RdI
    rw [List.length_append]; exact h9
   have hl2 : 2 ≤ (nl ++ [0, 0]).length := by rw [List.length_append]; simp
   obtain ⟨b9, o9, z0, rfl, hb9, hz0', hc0⟩ := hrd.at_ (k := 0) (by omega)
   obtain ⟨b9', o9', z1, hA9, hb9', hz1', hc1⟩ := hrd.at_ (k := 1) (by omega)
   simp only [Option.some.injEq, Addr.mk.injEq, and_true] at hA9
   obtain ⟨rfl, rfl⟩ := hA9
   obtain rfl := Option.some.inj (hz0'.symm.trans HAT.out.1)
   obtain rfl := Option.some.inj (hz1'.symm.trans HAT.out.2)
   rw [Nat.add_zero] at hc0
   have kb_r := kb_r.below (hB4.mono (by omega)) (by omega)
   obtain ⟨n0, hn0⟩ : ∃ n0, n0 = psN (ps.getD 1 []) := ⟨_, rfl⟩
   obtain ⟨n1, hn1⟩ : ∃ n1, n1 = psN (ps.getD 2 []) := ⟨_, rfl⟩
   have HHIT : Hid (∀ k, psHit ps k = (actOk k n0 n1 && decide (actText k n0 n1 = Lib.join ps [32]))) := fun k => by rw [hn0, hn1]; rfl
   have HNN := Lib.hid (And.intro hn0 hn1)
   rw [← hn0] at hc0
   rw [← hn1] at hc1
   have hl0' : (0 : Int) < ((nl.length + 2 : Nat) : Int) := by omega
   have hl1' : (1 : Int) < ((nl.length + 2 : Nat) : Int) := by omega
   rw [← HJN.out] at HHIT
   have hzb : w1.heap.size ≤ w4.heap.size := hB4.size
   have hB44 := Below.refl w4.heap.size w4
   have HC01 := Lib.hid (And.intro hc0 hc1)
   have HBW := Lib.hid hB4w
   have hlr := kb_r.lt
   clear ho4 hrd hz0' hz1' hg4 hB4 hB4w hn0 hn1 HAT hl2 hb9' hc0 hc1 ho6 hr6 kb_q kb_p HC1
   obtain ⟨wo, rfl⟩ : ∃ wo : World, wo = wr := ⟨_, rfl⟩
   go_wp2_with fail
   go_loopw [9] (fun kv wq => ∃ k : Nat, 1 ≤ k ∧ k ≤ 7 ∧ kv = .int .i64 k ∧ Hid (∀ j : Nat, 1 ≤ j → j < k → psHit ps j = false) ∧ Below w4.heap.size w4 wq) (fun kv _ => 7 - (intOf kv).toNat)
   case atStart => exact ⟨1, Nat.le_refl _, by omega, rfl, fun j h1 h2 => by omega, hB44⟩
   case round =>
    clear hB44
    obtain ⟨k, hk1, hk7, rfl, HM, hBq⟩ := hrel
    have hbq := hBq.size
    have kb_r := kb_r.below hBq hlr
    by_cases hlt : k ≤ 6
    ·have hki : (k : Int) ≤ 6 := by omega
     have hit := HHIT.out k
     have HF := Lib.hid (fun (W : World) (h : Tab W) => FormatActS_any k n0 n1 W h)
     obtain ⟨tx, htx⟩ : ∃ tx, tx = actText k n0 n1 := ⟨_, rfl⟩
     obtain ⟨o2, ho2⟩ : ∃ o2, o2 = actOk k n0 n1 := ⟨_, rfl⟩
     rw [← htx, ← ho2] at HF hit
     have HIT := Lib.hid hit
     have HTQ : Hid (∀ W, Below w4.heap.size w4 W → Tab W) := fun W hb => HTZ.out _ (HBW.out.trans (hb.mono HBW.out.size))
     have HK : Hid (∀ X : World, Below wr.heap.size wr X → X.cell? ⟨b9, o9, none⟩ = some (.int .i64 n0) ∧ X.cell? ⟨b9, o9 + 1, none⟩ = some (.int .i64 n1)) := fun X hX =>
      ⟨(Below.cell (hBq.trans (hX.mono hBq.size)) (p := ⟨b9, o9, none⟩) hb9).trans HC01.out.1, (Below.cell (hBq.trans (hX.mono hBq.size)) (p := ⟨b9, o9 + 1, none⟩) hb9).trans HC01.out.2⟩
     obtain ⟨g0, g1⟩ := HK.out wr (Below.refl _ _)
     have hb9q : b9 < wr.heap.size := by omega
     have hB6 := Below.refl wr.heap.size wr
     clear htx ho2 hit
     have i0 : (0 : Int) < (nl.length : Int) + 2 := by omega
     have i1 : (1 : Int) < (nl.length : Int) + 2 := by omega
     have i2 : 0 < nl.length + 2 := by omega
     have i3 : 1 < nl.length + 2 := by omega
     go_upto_region 15 with fail
     go_region_held3 (fun X => X.cell? ⟨b9, o9, none⟩ = some (.int .i64 n0) ∧ X.cell? ⟨b9, o9 + 1, none⟩ = some (.int .i64 n1)) (first | exact ⟨g0, g1⟩ | (refine HK.out _ ?_; (repeat' (first | (with_reducible exact Below.refl _ _) | (with_reducible assumption) | (with_reducible refine Below.alloc ?_ ?_ _) | (with_reducible refine Below.setCell ?_ ?_ _) | (with_reducible refine Below.drew ?_) | (with_reducible refine below_drewN ?_ _) | (refine Below.trans ?_ (Below.mono (by with_reducible assumption) ?_)) | omega | (simp; done) | (simp; omega))); done))
      (fail)
     all_goals
      clear g0 g1 HK
      go_upto_region 16 with fail
      first | refine name_world ?_ | refine name_wp ?_
      intro W6 hW
      have hB7 : Below wr.heap.size wr W6 := by rw [hW]; exact tacT
      have kb_r : Blk W6 w.heap.size 50 #[.int .i64 0, .int .i64 0, .int .i64 0] := by rw [hW]; exact blkT
      have kb_a : Blk W6 wr.heap.size 50 #[.int .i64 k, .int .i64 n0, .int .i64 n1] := by rw [hW]; exact blkT
      have hB := hBq.trans (hB7.mono hBq.size)
      have hz6 := hB7.size
      clear hW hB7 hB6
      have kc_a := kb_a.cells
      have hl_a := kb_a.lt
      go_wp2_with fail
      refine (HF.out _ (HTQ.out _ hB)).mono ?_
      rintro e w7 ⟨rfl, hb⟩
      replace hB := hB.trans (Below.mono hb hB.size)
      have hz_w7 : W6.heap.size ≤ w7.heap.size := Below.size hb
      replace kb_r := kb_r.mv hb; obtain ⟨kb_r, kc_r, kf_r, hl_r, hn_r⟩ := kb_r
      replace kb_a := kb_a.mv hb; obtain ⟨kb_a, kc_a, kf_a, hl_a, hn_a⟩ := kb_a
      clear hb
      cases o2
      ·have HN : Hid (∀ j : Nat, 1 ≤ j → j < k + 1 → psHit ps j = false) := fun j h1 h2 => by
        by_cases hj : j = k
        ·rw [hj, HIT.out]; rfl
        ·exact HM.out j h1 (by omega)
       go_wp2_with fail
       go_roundw
       case rel => exact ⟨k + 1, by omega, by omega, by go_num, HN.out, by exact tacT⟩
       case measure => simp [intOf]; omega
      ·by_cases hq : tx = jn
       ·have hpf : paOkF ps = true ∧ (k : Int) = paK ps := HPI.out k (by rw [HIT.out, decide_eq_true hq]; rfl)
        have hpv := HPY.out hpf.1
        have HN : Hid (paI t = true) := by show _ = _; rw [HPE.out, hpf.1]; rfl
        have HE : Hid (paK (sfX t) = (k : Int) ∧ paA (sfX t) = n0 ∧ paB (sfX t) = n1) := ⟨by rw [← HPS.out, hpf.2], by rw [← HPS.out, HNN.out.1, hpv.2.1], by rw [← HPS.out, HNN.out.2, hpv.2.2]⟩
        have e5 : (tx == jn) = true := by simpa using hq
        have HBF : Hid (Below w.heap.size w w7) := HBW.out.trans (hB.mono HBW.out.size)
        clear hpf hpv HIT HM
        go_wp2_with fail
        exact bodyPost_ret (v := .tuple #[.agg #[.int .i64 k, .int .i64 n0, .int .i64 n1], .bool true]) (by simp [results, Tryz.results22, go_sem, kc_r, hl_r, hn_r]) rfl (pa_ret_yes HN.out HE.out.1 HE.out.2.1 HE.out.2.2 (by have hB0 := HBF.out; have hB1 := Below.refl w.heap.size w; repeat' (first | (with_reducible exact Below.refl _ _) | (with_reducible assumption) | (with_reducible refine Below.alloc ?_ ?_ _) | (with_reducible refine Below.setCell ?_ ?_ _) | (with_reducible refine Below.drew ?_) | (with_reducible refine below_drewN ?_ _) | (refine Below.trans ?_ (Below.mono (by with_reducible assumption) ?_)) | omega | (simp; done) | (simp; omega))))
       ·have e5 : (tx == jn) = false := by simpa using hq
        have HN : Hid (∀ j : Nat, 1 ≤ j → j < k + 1 → psHit ps j = false) := fun j h1 h2 => by
         by_cases hj : j = k
         ·rw [hj, HIT.out, decide_eq_false hq]; rfl
         ·exact HM.out j h1 (by omega)
        clear HIT HM
        go_wp2_with fail
        go_roundw
        case rel => exact ⟨k + 1, by omega, by omega, by go_num, HN.out, by exact tacT⟩
        case measure => simp [intOf]; omega
    ·obtain rfl : k = 7 := by omega
     have HN : Hid (paI t = false) := by show _ = _; rw [HPE.out, hit_none HM.out HPY.out]; rfl
     have HBF : Hid (Below w.heap.size w wr) := HBW.out.trans (hBq.mono HBW.out.size)
     have kc_r := kb_r.cells
     have kf_r := kb_r.frozens
     have hl_r := kb_r.lt
     have hn_r := Nat.ne_of_lt hl_r
     go_wp2_with fail
     exact bodyPost_ret (v := .tuple #[.agg #[.int .i64 0, .int .i64 0, .int .i64 0], .bool false]) (by simp [results, Tryz.results22, go_sem, kc_r, hl_r, hn_r]) rfl (pa_ret_no HN.out (by have hB0 := HBF.out; have hB1 := Below.refl w.heap.size w; repeat' (first | (with_reducible exact Below.refl _ _) | (with_reducible assumption) | (with_reducible refine Below.alloc ?_ ?_ _) | (with_reducible refine Below.setCell ?_ ?_ _) | (with_reducible refine Below.drew ?_) | (with_reducible refine below_drewN ?_ _) | (refine Below.trans ?_ (Below.mono (by with_reducible assumption) ?_)) | omega | (simp; done) | (simp; omega))))
end
end Go.Proofs.YtpmmjhpmheooeaaGreatDoor
