/- Texts of the proof, joined: RunScript, ToStr, Sames. -/
import Derived.Test.YtpmmjhpmheooeaaGreatDoorQ34
import Derived.Test.YtpmmjhpmheooeaaGreatDoorQ36
import Derived.Test.YtpmmjhpmheooeaaGreatDoorQ37
import Derived.Test.YtpmmjhpmheooeaaGreatDoorQ29
import Derived.Deep.DeepCutAuto
import Derived.Test.YtpmmjhpmheooeaaGreatDoorQ32
namespace Go.Proofs.YtpmmjhpmheooeaaGreatDoor
set_option linter.unusedSimpArgs false
set_option linter.unusedVariables false
section
open Go.RowKit
set_option maxRecDepth 20000
def RcRet (t : List UInt8) (w : World) (e : Ending) (w' : World) : Prop := ∃ A' c', e = .returned (.tuple #[.slice A' (rcX t).length c', .bool (rcI t)]) ∧ OwnSt w' w.heap.size A' c' (rcX t) ∧ Below w.heap.size w w'
theorem rc_ret_no {t : List UInt8} {w w' : World} {A : Option Addr} (h : rcX t = [] ∧ rcI t = false) (hb : Below w.heap.size w w') (ho : OwnSt w' w.heap.size A 0 []) : RcRet t w (.returned (.tuple #[.slice A 0 0, .bool false])) w' := by
 refine ⟨A, 0, ?_, ?_, hb⟩
 ·rw [h.1, h.2]; rfl
 ·rw [h.1]; exact ho
theorem drop_at {l : List (List UInt8)} {k : Nat} {x : List UInt8} (h : l[k]? = some x) : l.drop k = x :: l.drop (k + 1) := by
 obtain ⟨hk, rfl⟩ := List.getElem?_eq_some_iff.1 h
 exact List.drop_eq_getElem_cons hk
theorem blank_iff {x : List UInt8} {ok : Bool} {fs : List (List UInt8)} (h : ok = sfOk x) (h' : fs = sfX x) : blank x = (ok && decide (fs.length = 0)) := by unfold blank; rw [h, h']
theorem row_oneA (w : World) (base : Nat) (x y z : Int) (hb : base ≤ w.heap.size) : (w.alloc (.cells #[.int .i64 x, .int .i64 y, .int .i64 z] 50)).ownsRow base 50 3 (.slice (some ⟨w.heap.size, 0, none⟩) 1 1) 1 (t3s [⟨x, y, z⟩]) :=
 ⟨rfl, .inr ⟨w.heap.size, 1, #[.int .i64 x, .int .i64 y, .int .i64 z], rfl, hb, heap_alloc_new w _, Nat.le_refl _, by unfold maxLen; omega, rfl, rfl⟩⟩
theorem strs_one : ∀ l : List (List UInt8), ∀ u ∈ strs l, u.oneCell' = true := by
 intro l u hu
 unfold strs at hu
 obtain ⟨x, -, rfl⟩ := List.mem_map.1 hu
 rfl
theorem strs_app (l m : List (List UInt8)) : strs (l ++ m) = strs l ++ strs m := by unfold strs; rw [List.map_append]
set_option maxHeartbeats 12800000 in
theorem RunScript_ret (t : List UInt8) (w0 : World) (ht : Tab w0) (hm : MaxLen w0) (hs : t.length ≤ 1048576) :
  Calls Tryz.prog 7 #[sv t] w0 (RcRet t w0) := by
 by_cases hg : 20000 < t.length
 ·have HN := Lib.hid (rs_long hg)
  have e1 : (20000 : Int) < (t.length : Int) := by omega
  have e2 : decide (20000 < t.length) = true := decide_eq_true hg
  go_enter Tryz.func7, Tryz.ntmps7
  go_wp2_with fail
  exact bodyPost_ret (v := .tuple #[.slice none 0 0, .bool false]) (by simp [results, Tryz.results7, go_sem]) rfl (rc_ret_no HN.out (Below.refl _ _) (ownSt_nil _ _))
 have hl : t.length ≤ 20000 := by omega
 have e1 : ¬ (20000 : Int) < (t.length : Int) := by omega
 have e2 : decide (20000 < t.length) = false := decide_eq_false hg
 have hpl : 0 < (rcL t).length := List.length_pos_iff.2 (spl_ne _ _ _)
 have HSp : Hid (∀ W, MaxLen W → Calls Tryz.prog 27 #[sv t, sv [10]] W fun e w' => ∃ A' c', e = .returned (.slice A' (rcL t).length c') ∧ OwnSt w' W.heap.size A' c' (rcL t) ∧ Below W.heap.size W w') := fun W h => Split_any t 10 W hs h
 have HLEN : Hid (∀ x ∈ rcL t, x.length ≤ 1048576) := fun x hx => by have h9 := spl_len 10 t [] x hx; simp at h9; omega
 have hll := rcL_len t
 obtain ⟨ls, hps⟩ : ∃ ls, ls = rcL t := ⟨_, rfl⟩
 rw [← hps] at HSp HLEN hpl hll
 have HRN : Hid (rsGo ls [] = none → rcX t = [] ∧ rcI t = false) := fun h => rs_no hl (by rw [← hps]; exact h)
 have HRY : Hid (∀ acts, rsGo ls [] = some acts → rcX t = outOf acts ∧ rcI t = true) := fun acts h => rs_yes hl (by rw [← hps]; exact h)
 clear hps hg
 go_enter Tryz.func7, Tryz.ntmps7
 go_wp2_with fail
 refine (HSp.out _ hm).mono ?_
 rintro e w ⟨A1, c1, rfl, ho1, hb⟩
 obtain ⟨b1, s1, rfl, hbb1, hc1⟩ := (OwnSt.rd ho1).at_ (k := 0) hpl
 have hcap := (OwnSt.rd ho1).2.1
 have HC1 := Lib.hid hc1
 have hb1lt : b1 < w.heap.size := hbb1
 have HB1 := Lib.hid hb
 have hB1 := Below.refl w.heap.size w
 have hz1 := HB1.out.size
 clear ho1 hc1 hb e1 e2
 go_wp2_with fail
 go_loopw [4, 22] (fun v i wr => ∃ (k : Nat) (A' : Option Addr) (c' : Nat) (l : List T3), k ≤ ls.length ∧ i = .int .i64 k ∧ v = .slice A' l.length c' ∧ l.length ≤ 40 ∧ Hid (rsGo ls [] = rsGo (ls.drop k) l) ∧ Hid (wr.ownsRow w.heap.size 50 3 (.slice A' l.length c') l.length (t3s l)) ∧ Below w.heap.size w wr) (fun _ i _ => ls.length - (intOf i).toNat)
 case atStart => exact ⟨0, none, 0, [], Nat.zero_le _, rfl, rfl, Nat.zero_le _, rfl, World.ownsRow_nil _ _ _ _, hB1⟩
 case round =>
  obtain ⟨k, A', c', l, hk, rfl, rfl, hl40, HI, HO, hB⟩ := hrel
  have hbs := hB.size
  have hBW := HB1.out.trans (hB.mono HB1.out.size)
  have HTB : Hid (Tab wr) := ht.below hBW
  have HBW := Lib.hid hBW
  have hr_q : Row2 wr w.heap.size wr.heap.size 50 3 A' l.length c' (t3s l) := Row2.born HO.out
  clear hBW HO
  by_cases hlt : k < ls.length
  ·obtain ⟨x, hx⟩ : ∃ x, ls[k]? = some x := ⟨_, List.getElem?_eq_getElem hlt⟩
   have f0 : wr.cell? ⟨b1, s1 + k, none⟩ = some (sv x) := (hB.cell (p := ⟨b1, _, none⟩) hb1lt).trans (HC1.out k x hx)
   have hlb : b1 < wr.heap.size := by omega
   have hk0 : (0 : Int) ≤ (k : Int) := by omega
   have hk1 : (k : Int) < (ls.length : Int) := by omega
   have HSF := Lib.hid (fun W => SplitFields_any x W)
   have HPA : Hid (∀ W, Tab W → Calls Tryz.prog 29 #[sv x] W (PaRet x W)) := fun W h => ParseAct_ret x W h (HLEN.out x (List.mem_of_getElem? hx))
   unfold PaRet at HPA
   rw [drop_at hx] at HI
   obtain ⟨ok, hok⟩ : ∃ ok, ok = sfOk x := ⟨_, rfl⟩
   obtain ⟨fs, hfs⟩ : ∃ fs, fs = sfX x := ⟨_, rfl⟩
   obtain ⟨pi, hpi⟩ : ∃ pi, pi = paI x := ⟨_, rfl⟩
   obtain ⟨⟨ax, ay, az⟩, hpx⟩ : ∃ r, r = paX x := ⟨_, rfl⟩
   have hbk := blank_iff hok hfs
   rw [← hok, ← hfs] at HSF
   rw [← hpi, ← hpx] at HPA
   simp only at HPA
   have HPI := Lib.hid hpi
   have HPX := Lib.hid hpx
   clear hx hok hfs hpi hpx
   go_wp2_with fail
   refine (HSF.out _).mono ?_
   rintro e w2 ⟨Af, cf, rfl, _, hb⟩
   replace hB := hB.trans (Below.mono hb hB.size)
   have hz_w2 : wr.heap.size ≤ w2.heap.size := Below.size hb
   replace hr_q := Row2.below hr_q hb (by omega)
   clear hb
   clear HSF f0
   have hcase : (ok = true ∧ fs.length = 0) ∨ (ok = false ∨ (ok = true ∧ ¬ fs.length = 0)) := by
     cases ok
     ·exact .inr (.inl rfl)
     ·by_cases h : fs.length = 0
      ·exact .inl ⟨rfl, h⟩
      ·exact .inr (.inr ⟨rfl, h⟩)
   rcases hcase with ⟨rfl, h0⟩ | hcase
   ·have e3 : ((fs.length : Int) == 0) = true := by rw [h0]; rfl
    have HN : Hid (rsGo ls [] = rsGo (ls.drop (k + 1)) l) := by
     show _ = _
     rw [HI.out, rsGo_skip (by rw [hbk, h0]; rfl)]
    clear hbk HI
    go_wp2_with fail
    go_roundw
    case rel => exact ⟨k + 1, A', c', l, by omega, by go_num, rfl, hl40, HN.out, (Row2.mono hr_q (by omega) (by omega)).1, hB⟩
    case measure => simp [intOf]; omega
   ·have hnb : blank x = false := by
     rw [hbk]
     rcases hcase with rfl | ⟨rfl, hn⟩
     ·rfl
     ·rw [decide_eq_false hn]; rfl
    have HNB := Lib.hid hnb
    clear hbk hnb
    have HTZ : Hid (∀ W, Below w.heap.size w W → Tab W) := fun W hb => ht.below (HB1.out.trans (hb.mono HB1.out.size))
    rcases hcase with rfl | ⟨rfl, hn⟩
    all_goals
     try have e3 : ((fs.length : Int) == 0) = false := beq_eq_false_iff_ne.2 (by omega)
     go_wp2_with fail
     refine (HPA.out _ (HTZ.out _ hB)).mono ?_
     rintro e w3 ⟨rfl, hb⟩
     replace hB := hB.trans (Below.mono hb hB.size)
     have hz_w3 : w2.heap.size ≤ w3.heap.size := Below.size hb
     replace hr_q := Row2.below hr_q hb (by omega)
     clear hb
     cases pi
     ·have HN := Lib.hid (HRN.out (by rw [HI.out]; exact rsGo_bad HNB.out HPI.out.symm _ _))
      go_wp2_with fail
      refine bodyPost_ret (v := .tuple #[.slice none 0 0, .bool false]) (by simp [results, Tryz.results7, go_sem]) rfl (rc_ret_no HN.out (HB1.out.trans (Below.mono (by exact tacT) HB1.out.size)) (ownSt_nil _ _))
     ·by_cases h40 : l.length = 40
      ·have e4 : ((l.length : Int) == 40) = true := by rw [h40]; rfl
       have HN := Lib.hid (HRN.out (by rw [HI.out]; exact rsGo_full HNB.out h40 _))
       go_wp2_with fail
       refine bodyPost_ret (v := .tuple #[.slice none 0 0, .bool false]) (by simp [results, Tryz.results7, go_sem]) rfl (rc_ret_no HN.out (HB1.out.trans (Below.mono (by exact tacT) HB1.out.size)) (ownSt_nil _ _))
      ·have e4 : ((l.length : Int) == 40) = false := beq_eq_false_iff_ne.2 (by omega)
       have e5 : ¬ (l.length : Int) = 40 := by omega
       have HN : Hid (rsGo ls [] = rsGo (ls.drop (k + 1)) (l ++ [⟨ax, ay, az⟩])) := by
        show _ = _
        rw [HI.out, rsGo_take HNB.out HPI.out.symm h40, HPX.out]
       clear HI HPA
       go_upto_region 12 with fail
       first | refine name_world ?_ | refine name_wp ?_
       intro W4 hW
       replace hB : Below w.heap.size w W4 := by rw [hW]; exact tacT
       have hz_W4 : w3.heap.size ≤ W4.heap.size := by rw [hW]; exact sT
       replace kb_r : Blk W4 (w3.heap.size) 50 #[.int .i64 ax, .int .i64 ay, .int .i64 az] := by rw [hW]; exact blkT
       have hLW4_r := kb_r.lt
       replace hr_q : Row2 W4 (w.heap.size) (wr.heap.size) 50 3 A' (l.length) c' (t3s l) := by rw [hW]; exact rowT
       try clear kc_r kf_r
       clear hW
       have kc := kb_r.cells
       have hl4 := kb_r.lt
       have ho6 : (W4.alloc (.cells #[.int .i64 ax, .int .i64 ay, .int .i64 az] 50)).ownsRow w.heap.size 50 3 (.slice A' l.length c') l.length (t3s l) := (Row2.alloc hr_q _).1
       have hrd : Rd (W4.alloc (.cells #[.int .i64 ax, .int .i64 ay, .int .i64 az] 50)) (W4.alloc (.cells #[.int .i64 ax, .int .i64 ay, .int .i64 az] 50)).heap.size 3 (some ⟨W4.heap.size, 0, none⟩) 1 1 (t3s [⟨ax, ay, az⟩]) := Rd.of_own (row_oneA W4 W4.heap.size ax ay az (Nat.le_refl _))
       have hbs4 := hB.size
       go_wp2_with (at_builtin; refine wpList_appAll rfl _ _ 36 rfl w.heap.size 50 (.agg #[.int .i64 0, .int .i64 0, .int .i64 0]) 3 24 Tryz.underlying36 infoAct9 rfl (by decide) (.slice A' l.length c') l.length (t3s l) rfl ho6 _ (some ⟨W4.heap.size, 0, none⟩) 1 1 (t3s [⟨ax, ay, az⟩]) rfl hrd (t3s_one _) (by omega) (by omega) (by exact ooT) ?_)
       intro A3 c3 w5 ho5 hg5
       have hB5 := below_grown_own (hB.alloc hbs4 (.cells #[.int .i64 ax, .int .i64 ay, .int .i64 az] 50)) ho6 hg5 (Nat.le_refl _) (by exact oT)
       rw [← t3s_append] at ho5
       have H5 : Hid (w5.ownsRow w.heap.size 50 3 (.slice A3 (l ++ [(⟨ax, ay, az⟩ : T3)]).length c3) (l ++ [(⟨ax, ay, az⟩ : T3)]).length (t3s (l ++ [⟨ax, ay, az⟩])) ∧ Below w.heap.size w w5) := ⟨by rw [List.length_append]; exact ho5, hB5⟩
       clear ho5 hB5 hg5 ho6 hrd hr_q kb_r kc
       go_wp2_with fail
       go_roundw
       case rel => exact ⟨k + 1, A3, c3, _, by omega, by go_num, by rw [List.length_append]; rfl, by rw [List.length_append, List.length_singleton]; omega, HN.out, H5.out.1, H5.out.2⟩
       case measure => simp [intOf]; omega
  ·obtain rfl : k = ls.length := by omega
   have hk1 : ¬ (ls.length : Int) < (ls.length : Int) := by omega
   have HYES := Lib.hid (HRY.out l (by rw [HI.out, List.drop_eq_nil_of_le (Nat.le_refl _)]; rfl))
   have hnb := sv0_nums (acts := l) hl40
   have h4 := fun (W : World) => SampleVillage_any W
   have h1 := fun (W : World) (A2 : Option Addr) (c2 : Nat) (R2 : Option Addr) (d2 : Nat) (q1 : RdT W W.heap.size A2 c2 (newV 200 100 1).book.evs) (q2 : RdT W W.heap.size R2 d2 (newV 200 100 1).rights) (q3 : RdT W W.heap.size A' c' l) => RunActs_any A2 c2 R2 d2 (newV 200 100 1) A' c' l W q1 q2 q3 (by simp [newV])
   have hout : outOf l = (runActs (newV 200 100 1) l).2.map Lib.itoa ++ fmtV (runActs (newV 200 100 1) l).1 := rfl
   have hnv : sv0 = newV 200 100 1 := rfl
   rw [hnv] at hnb
   obtain ⟨⟨x, ns⟩, hE⟩ : ∃ r, runActs (newV 200 100 1) l = r := ⟨_, rfl⟩
   rw [hE] at h1 hnb hout
   simp only at hnb hout
   have hlx := vg_lens hnb.2.2
   have h6 := fun (W : World) (A2 : Option Addr) (c2 : Nat) (R2 : Option Addr) (d2 : Nat) (q1 : RdT W W.heap.size A2 c2 x.book.evs) (q2 : RdT W W.heap.size R2 d2 x.rights) (q3 : Tab W) => FormatVillage_any A2 c2 R2 d2 x W q1 q2 (by omega) q3
   have hfl := fmtV_len9 x
   unfold RunRet at h1
   unfold VgOne at h4
   unfold Vg.val at h1 h4 h6
   simp only [newV, List.length_nil, List.length_cons, Nat.zero_add] at h4
   simp only [newV, List.length_nil, List.length_cons, Nat.zero_add] at h1
   obtain ⟨fm, hfm⟩ : ∃ fm, fm = fmtV x := ⟨_, rfl⟩
   rw [← hfm] at h6 hfl hout
   obtain ⟨⟨room, start, el, lv, ra, dr, lo⟩, rs⟩ := x
   simp only at h1 h6
   have hn40 : ns.length ≤ 40 := by omega
   have HNB := Lib.hid hnb.2.1
   have HOUT := Lib.hid hout
   have H1 := Lib.hid h1
   have H4 := Lib.hid h4
   have HVF := Lib.hid h6
   have HTY : Hid (∀ W, Below w.heap.size w W → Tab W) := fun W hb => ht.below (HB1.out.trans (hb.mono HB1.out.size))
   clear h1 h4 h6 hout hnb hfm hE hlx hnv HI
   go_wp2_with fail
   refine (H4.out _).mono ?_
   rintro e w2 ⟨A2, c2, R2, d2, rfl, ho1, ho2, hb⟩
   have hr_e2 := Row2.born ho1
   have hr_s2 := Row2.born ho2
   clear ho1 ho2
   replace hB := hB.trans (Below.mono hb hB.size)
   have hz_w2 : wr.heap.size ≤ w2.heap.size := Below.size hb
   replace hr_q := Row2.below hr_q hb (by omega)
   clear hb
   go_wp2_with fail
   refine (H1.out _ _ _ _ _ hr_e2.rd hr_s2.rd hr_q.rd).mono ?_
   rintro e w3 ⟨A3, c3, R3, d3, B3, n3, rfl, la, lb, na, nb, -, hq0, -, hq2, -, hr_e, hr_s, hr_n, hb⟩
   replace hB := hB.trans (Below.mono hb hB.size)
   have hz_w3 : w2.heap.size ≤ w3.heap.size := Below.size hb
   clear hb
   clear H1 H4 hr_e2 hr_s2 hr_q
   go_upto_region 15 with fail
   first | refine name_world ?_ | refine name_wp ?_
   intro W4 hW
   replace hB : Below w.heap.size w W4 := by rw [hW]; exact tacT
   have hz_W4 : w3.heap.size ≤ W4.heap.size := by rw [hW]; exact sT
   replace kb_x : Blk W4 (w3.heap.size) 35 #[.int .i64 room, .int .i64 start, .slice A3 el.length c3, .int .i64 lv, .int .i64 ra, .int .i64 dr, .int .i64 lo, .slice R3 rs.length d3] := by rw [hW]; exact blkT
   have hLW4_x := kb_x.lt
   replace hr_e : Row2 W4 (la) (lb) 120 3 A3 (el.length) c3 (t3s el) := by rw [hW]; exact rowT
   replace hr_s : Row2 W4 (la) (lb) 69 3 R3 (rs.length) d3 (t3s rs) := by rw [hW]; exact rowT
   replace hr_n : Row2 W4 (na) (nb) 3 1 B3 (ns.length) n3 (ints ns) := by rw [hW]; exact rowT
   try clear kc_x kf_x
   clear hW
   have HRE := Lib.hid (And.intro hr_e.rd hr_s.rd)
   have hrn : RdI W4 W4.heap.size B3 n3 ns := hr_n.rd
   have HRN := Lib.hid hrn
   have HKX := Lib.hid kb_x
   have hBW4 := Lib.hid hB
   have hzw4 := hB.size
   clear hr_e hr_s hr_n hrn kb_x hB
   obtain ⟨wo, rfl⟩ : ∃ wo : World, wo = wr := ⟨_, rfl⟩
   go_wp2_with fail
   go_loopw [13, 62] (fun v i wq => ∃ (k : Nat) (A' : Option Addr) (c' : Nat) (out : List (List UInt8)), k ≤ ns.length ∧ i = .int .i64 k ∧ v = .slice A' out.length c' ∧ Hid (out = (ns.take k).map Lib.itoa ∧ out.length = k) ∧ Hid (OwnSt wq W4.heap.size A' c' out) ∧ Below W4.heap.size W4 wq) (fun _ i _ => ns.length - (intOf i).toNat)
   case atStart => exact ⟨0, none, 0, [], Nat.zero_le _, rfl, rfl, ⟨by simp, rfl⟩, ownSt_nil _ _, Below.refl _ _⟩
   case round =>
    obtain ⟨k, A', c', out, hk, rfl, rfl, HL, HO, hB⟩ := hrel
    have hbs := hB.size
    have hol : out.length ≤ 40 := by have := HL.out.2; omega
    by_cases hlt : k < ns.length
    ·obtain ⟨b9, o9, z, rfl, hb9, hz, hc9⟩ := HRN.out.at_ hlt
     have f0 : wr.cell? ⟨b9, o9 + k, none⟩ = some (.int .i64 z) := (hB.cell (p := ⟨b9, _, none⟩) hb9).trans hc9
     have hlb : b9 < wr.heap.size := by omega
     have hk0 : (0 : Int) ≤ (k : Int) := by omega
     have hk1 : (k : Int) < (ns.length : Int) := by omega
     have hzb := HNB.out z (List.mem_of_getElem? hz)
     have HFI := Lib.hid (fun (W : World) (h : Tab W) => FormatInt_any z W (by omega) (by omega) h)
     obtain ⟨tz, htz⟩ : ∃ tz, tz = Lib.itoa z := ⟨_, rfl⟩
     rw [← htz] at HFI
     have HN : Hid (out ++ [tz] = (ns.take (k + 1)).map Lib.itoa ∧ (out ++ [tz]).length = k + 1) := ⟨by rw [List.take_add_one, hz, HL.out.1, htz]; simp, by rw [List.length_append, HL.out.2]; rfl⟩
     have HTQ := Lib.hid (HTY.out _ (hBW4.out.trans (hB.mono hBW4.out.size)))
     clear hz htz hc9 HL
     go_wp2_with fail
     refine (HFI.out _ HTQ.out).mono ?_
     rintro e w5 ⟨rfl, hb⟩
     have ho6 : OwnSt (w5.alloc (.cells #[sv tz] 9)) W4.heap.size A' c' out := World.ownsRow.alloc (own_below HO.out hb (Nat.le_refl _)) _
     have hB5 := hB.trans (hb.mono hB.size)
     have hbs5 := hB5.size
     clear hb HO hB f0 HFI
     go_wp2_with (at_builtin; refine wpList_appSt rfl _ _ rfl W4.heap.size A' c' out rfl ho6 w5.heap.size tz rfl (cell_new1 _ _ _) (by omega) (by exact oT) ?_)
     intro A5 c5 w6 ho7 hg7
     have hB6 := below_grown_own (hB5.alloc hbs5 (.cells #[sv tz] 9)) ho6 hg7 (Nat.le_refl _) (by exact oT)
     have H6 := Lib.hid (And.intro ho7 hB6)
     clear ho7 hB6 hg7 ho6
     go_wp2_with fail
     go_roundw
     case rel => exact ⟨k + 1, A5, c5, out ++ [tz], by omega, by go_num, by rw [List.length_append]; rfl, HN.out, H6.out.1, H6.out.2⟩
     case measure => simp [intOf]; omega
    ·obtain rfl : k = ns.length := by omega
     have hk1 : ¬ (ns.length : Int) < (ns.length : Int) := by omega
     have kb_x := HKX.out.below hB HKX.out.lt
     have kc_x := kb_x.cells
     have hl_x := kb_x.lt
     have hout : out = ns.map Lib.itoa := by have := HL.out.1; rwa [List.take_length] at this
     have HFIN : Hid (rcX t = out ++ fm ∧ rcI t = true) := ⟨by rw [HYES.out.1, HOUT.out, hout], HYES.out.2⟩
     have HTQ := Lib.hid (HTY.out _ (hBW4.out.trans (hB.mono hBW4.out.size)))
     have HRE2 := Lib.hid (And.intro (RdT.below HRE.out.1 hB) (RdT.below HRE.out.2 hB))
     have HBF : Hid (Below w0.heap.size w0 wr) := HB1.out.trans ((hBW4.out.trans (hB.mono hBW4.out.size)).mono HB1.out.size)
     have hzz := HB1.out.size
     clear kb_x hout HL HYES HOUT HRE HRN HKX
     go_wp2_with fail
     refine (HVF.out _ _ _ _ _ HRE2.out.1 HRE2.out.2 HTQ.out).mono ?_
     rintro e w5 ⟨AF, cF, rfl, hoF, hb⟩
     have ho5 : OwnSt w5 W4.heap.size A' c' out := own_below HO.out hb (Nat.le_refl _)
     have hB5 := hB.trans (hb.mono hB.size)
     have HBF5 : Hid (Below w0.heap.size w0 w5) := HBF.out.trans (hb.mono HBF.out.size)
     have hbs5 := hB5.size
     have hrF : RdSt w5 w5.heap.size AF cF fm := OwnSt.rd hoF
     clear hb HO hB kc_x hl_x hoF
     go_wp2_with (at_builtin; refine wpList_appAll rfl _ _ 22 rfl W4.heap.size 9 (.string ⟨#[]⟩) 1 16 Tryz.underlying22 infoSt rfl (by decide) (.slice A' out.length c') out.length (strs out) rfl ho5 _ AF fm.length cF (strs fm) rfl hrF (strs_one fm) (by omega) (by omega) (by exact ooT) ?_)
     intro A6 c6 w6 ho6 hg6
     have hB6 := below_grown_own HBF5.out ho5 hg6 (by omega) HBF5.out.size
     have ho7 : OwnSt w6 w0.heap.size A6 c6 (out ++ fm) := by
      unfold OwnSt
      rw [strs_app, List.length_append]
      exact (Row2.mono (Row2.born ho6) (lo' := w0.heap.size) (by omega) (Nat.le_refl _)).1
     have H7 : Hid (RcRet t w0 (.returned (.tuple #[.slice A6 (out.length + fm.length) c6, .bool true])) w6) := by
      refine ⟨A6, c6, ?_, ?_, hB6⟩
      ·rw [HFIN.out.1, HFIN.out.2, List.length_append]
      ·rw [HFIN.out.1]; exact ho7
     clear ho6 ho7 hg6 ho5 hB6
     go_wp2_with fail
     exact bodyPost_ret (v := .tuple #[.slice A6 (out.length + fm.length) c6, .bool true]) (by simp [results, Tryz.results7, go_sem]) rfl H7.out
theorem RunScript_any (t : List UInt8) (w : World) (ht : Tab w) (hm : MaxLen w) (hs : t.length ≤ 1048576) :
  Calls Tryz.prog 7 #[sv t] w fun e w' => ∃ A' c', e = .returned (.tuple #[.slice A' (rcX t).length c', .bool (rcI t)]) ∧ OwnSt w' w.heap.size A' c' (rcX t) ∧ Below w.heap.size w w' := RunScript_ret t w ht hm hs
end
section
open Go.RowKit
set_option maxRecDepth 20000
theorem RdSt.le {w : World} {B c : Nat} {A : Option Addr} {l : List (List UInt8)} (h : RdSt w B A c l) : l.length ≤ c ∧ c ≤ 9223372036854775807 := ⟨h.2.1, h.2.2.1⟩
theorem RdSt.get {w : World} {B c : Nat} {A : Option Addr} {l : List (List UInt8)} (h : RdSt w B A c l) {k : Nat} (hk : k < l.length) :
  ∃ b o x, A = some ⟨b, o, none⟩ ∧ b < B ∧ l[k]? = some x ∧ w.cell? ⟨b, o + k, none⟩ = some (sv x) := by
 obtain ⟨b, o, e, hb, hc⟩ := h.2.2.2 (by omega)
 have hx : l[k]? = some l[k] := List.getElem?_eq_getElem hk
 exact ⟨b, o, l[k], e, hb, hx, hc k _ (by simp [strs, hx])⟩
end
section
open Go.RowKit
set_option maxRecDepth 20000
set_option maxHeartbeats 1600000 in
theorem sameTexts_same (A : Option Addr) (c : Nat) (B : Option Addr) (d : Nat) (l : List (List UInt8)) (w : World) (h : RdSt w w.heap.size A c l) (h' : RdSt w w.heap.size B d l) :
  Calls Tryz.prog 18 #[.slice A l.length c, .slice B l.length d] w fun e w' => e = .returned (.bool true) ∧ Below w.heap.size w w' := by
 obtain ⟨hl, hm⟩ := h.le
 obtain ⟨hl', hm'⟩ := h'.le
 refine post_d ?_
 go_enter Tryz.func18, Tryz.ntmps18
 go_wp2
 go_loopw [5] (fun i wr => ∃ k : Nat, k ≤ l.length ∧ i = .int .i64 k ∧ ∃ n, wr = w.drewN n) (fun i _ => l.length - (intOf i).toNat)
 case atStart => exact ⟨0, Nat.zero_le _, rfl, 0, rfl⟩
 case round =>
  obtain ⟨k, hk, rfl, n, rfl⟩ := hrel
  by_cases hlt : k < l.length
  ·obtain ⟨b, o, x, rfl, hbb, hx, hcell⟩ := h.get hlt
   obtain ⟨b', o', y, rfl, hbb', hy, hcell'⟩ := h'.get (k := k) (by omega)
   obtain rfl : x = y := Option.some.inj (hx.symm.trans hy)
   clear hx hy
   go_wp2
   go_quiet (fail)
   go_wp2
   go_roundw
   case rel => exact ⟨k + 1, by omega, by go_num, _, rfl⟩
   case measure => simp [intOf]; omega
  ·go_wp2
   go_ret
   exact ⟨rfl, n, rfl⟩
set_option maxHeartbeats 1600000 in
theorem sameInts_same (A : Option Addr) (c : Nat) (B : Option Addr) (d : Nat) (l : List Int) (w : World) (h : RdI w w.heap.size A c l) (h' : RdI w w.heap.size B d l) :
  Calls Tryz.prog 20 #[.slice A l.length c, .slice B l.length d] w fun e w' => e = .returned (.bool true) ∧ Below w.heap.size w w' := by
 obtain ⟨hl, hm⟩ := h.le
 obtain ⟨hl', hm'⟩ := h'.le
 refine post_d ?_
 go_enter Tryz.func20, Tryz.ntmps20
 go_wp2
 go_loopw [5] (fun i wr => ∃ k : Nat, k ≤ l.length ∧ i = .int .i64 k ∧ ∃ n, wr = w.drewN n) (fun i _ => l.length - (intOf i).toNat)
 case atStart => exact ⟨0, Nat.zero_le _, rfl, 0, rfl⟩
 case round =>
  obtain ⟨k, hk, rfl, n, rfl⟩ := hrel
  by_cases hlt : k < l.length
  ·obtain ⟨b, o, x, rfl, hbb, hx, hcell⟩ := h.at_ hlt
   obtain ⟨b', o', y, rfl, hbb', hy, hcell'⟩ := h'.at_ (k := k) (by omega)
   obtain rfl : x = y := Option.some.inj (hx.symm.trans hy)
   clear hx hy
   go_wp2
   go_quiet (fail)
   go_wp2
   go_roundw
   case rel => exact ⟨k + 1, by omega, by go_num, _, rfl⟩
   case measure => simp [intOf]; omega
  ·go_wp2
   go_ret
   exact ⟨rfl, n, rfl⟩
end
end Go.Proofs.YtpmmjhpmheooeaaGreatDoor
