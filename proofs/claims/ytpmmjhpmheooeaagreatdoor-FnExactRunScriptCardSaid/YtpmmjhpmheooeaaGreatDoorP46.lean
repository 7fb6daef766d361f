/- Texts of the proof, joined: RunScriptS. -/
import Derived.Test.YtpmmjhpmheooeaaGreatDoorP44
import Derived.Test.YtpmmjhpmheooeaaGreatDoorP45
import Derived.Test.YtpmmjhpmheooeaaGreatDoorP33
namespace Go.Proofs.YtpmmjhpmheooeaaGreatDoor
set_option linter.unusedSimpArgs false
set_option linter.unusedVariables false
section
open Go.RowKit
set_option maxRecDepth 20000
theorem spl_next {t : List UInt8} {k b : Nat} {x : UInt8} (hx : t[k]? = some x) (hb : b ≤ k) (h : x ≠ 10) : spl 10 ((t.take k).drop b) (t.drop k) = spl 10 ((t.take (k + 1)).drop b) (t.drop (k + 1)) := by
 have hd : t.drop k = x :: t.drop (k + 1) := by
  obtain ⟨hk, rfl⟩ := List.getElem?_eq_some_iff.1 hx
  exact List.drop_eq_getElem_cons hk
 rw [hd, spl_miss h, take_drop_snoc hx hb]
theorem spl_line {t : List UInt8} {k b : Nat} {x : UInt8} (hx : t[k]? = some x) (h : x = 10) : spl 10 ((t.take k).drop b) (t.drop k) = (t.take k).drop b :: spl 10 [] (t.drop (k + 1)) := by
 have hd : t.drop k = x :: t.drop (k + 1) := by
  obtain ⟨hk, rfl⟩ := List.getElem?_eq_some_iff.1 hx
  exact List.drop_eq_getElem_cons hk
 rw [hd, h, spl_hit]
def RsAt (t : List UInt8) (k b : Nat) (l : List T3) : Prop := (k ≤ t.length → rsAl (rcL t) [] = rsAl (spl 10 ((t.take k).drop b) (t.drop k)) l) ∧ (t.length < k → rsAl (rcL t) [] = some l)
theorem rsAt_0 (t : List UInt8) : RsAt t 0 0 [] := ⟨fun _ => by unfold rcL; simp, fun h => by omega⟩
theorem rsAt_ch {t : List UInt8} {k b : Nat} {l : List T3} {x : UInt8} (h : RsAt t k b l) (hx : t[k]? = some x) (hb : b ≤ k) (hn : x ≠ 10) : RsAt t (k + 1) b l := by
 have hk : k < t.length := (List.getElem?_eq_some_iff.1 hx).1
 exact ⟨fun _ => by rw [h.1 (by omega), spl_next hx hb hn], fun h9 => by omega⟩
/-- At a line's end: the line, what comes behind it, and the way on. -/
theorem rsAt_end {t : List UInt8} {k b : Nat} {l : List T3} (h : RsAt t k b l) (hk : k ≤ t.length) (he : k = t.length ∨ t[k]? = some 10) :
  ∃ RL, rsAl (rcL t) [] = rsAl ((t.take k).drop b :: RL) l ∧ ∀ l', rsAl (rcL t) [] = rsAl RL l' → RsAt t (k + 1) (k + 1) l' := by
 rcases he with rfl | he
 ·refine ⟨[], ?_, fun l' h' => ⟨fun h9 => by omega, fun _ => h'⟩⟩
  rw [h.1 (Nat.le_refl _), List.drop_eq_nil_of_le (Nat.le_refl _), spl_nil]
 ·refine ⟨spl 10 [] (t.drop (k + 1)), ?_, fun l' h' => ⟨fun _ => ?_, fun h9 => ?_⟩⟩
  ·rw [h.1 hk, spl_line he rfl]
  ·rw [h', List.drop_eq_nil_of_le (show (t.take (k + 1)).length ≤ k + 1 by rw [List.length_take]; omega)]
  ·have := (List.getElem?_eq_some_iff.1 he).1
   omega
set_option maxHeartbeats 12800000 in
theorem RunScriptS_ret (t : List UInt8) (w0 : World) (ht : Tab w0) (hs : t.length ≤ 1048576) :
  Calls Tryz.prog 6 #[sv t] w0 (RcRet t w0) := by
 by_cases hg : 20000 < t.length
 ·have HN := Lib.hid (rs_long hg)
  have e1 : (20000 : Int) < (t.length : Int) := by omega
  have e2 : decide (20000 < t.length) = true := decide_eq_true hg
  go_enter Tryz.func6, Tryz.ntmps6
  go_wp2_with fail
  exact bodyPost_ret (v := .tuple #[.slice (some ⟨w0.heap.size, 0, none⟩) 0 0, .bool false]) (by simp [results, Tryz.results6, go_sem]) rfl (rc_ret_no HN.out (Below.alloc (Below.refl _ _) (Nat.le_refl _) _) (ownEmpty _ _ _ _ (Nat.le_refl _)))
 have hl : t.length ≤ 20000 := by omega
 have e1 : ¬ (20000 : Int) < (t.length : Int) := by omega
 have e2 : decide (20000 < t.length) = false := decide_eq_false hg
 have HRN : Hid (rsAl (rcL t) [] = none → rcX t = [] ∧ rcI t = false) := fun h => rs_no hl (rs_none h)
 have HRO : Hid (∀ r, rsAl (rcL t) [] = some r → 40 < r.length → rcX t = [] ∧ rcI t = false) := fun r h h9 => rs_no hl (rs_over h h9 (by simp))
 have HRY : Hid (∀ acts, rsAl (rcL t) [] = some acts → acts.length ≤ 40 → rcX t = outOf acts ∧ rcI t = true) := fun acts h h9 => rs_yes hl (rs_some h h9)
 clear hg
 go_enter Tryz.func6, Tryz.ntmps6
 go_upto_region 2 with fail
 first | refine name_world ?_ | refine name_wp ?_
 intro w hW
 have HNO : Hid (OwnSt w w0.heap.size (some ⟨w0.heap.size, 0, none⟩) 0 []) := by show OwnSt _ _ _ _ _; rw [hW]; exact ownEmpty w0 w0.heap.size 9 1 (Nat.le_refl _)
 have HB1 : Hid (Below w0.heap.size w0 w) := by show Below _ _ _; rw [hW]; exact Below.alloc (Below.refl _ _) (Nat.le_refl _) _
 have hz0 : w0.heap.size < w.heap.size := by rw [hW]; simp
 clear hW
 have HRET : Hid (∀ W, Below w.heap.size w W → rcX t = [] ∧ rcI t = false → RcRet t w0 (.returned (.tuple #[.slice (some ⟨w0.heap.size, 0, none⟩) 0 0, .bool false])) W) := fun W hb h => rc_ret_no h (HB1.out.trans (hb.mono HB1.out.size)) (own_below HNO.out hb (Nat.le_refl _))
 have HTZ : Hid (∀ W, Below w.heap.size w W → Tab W) := fun W hb => ht.below (HB1.out.trans (hb.mono HB1.out.size))
 have hB1 := Below.refl w.heap.size w
 go_wp2_with fail
 go_loopw [5, 6, 7] (fun av bv iv wr => ∃ (k b : Nat) (A' : Option Addr) (c' : Nat) (l : List T3), k ≤ t.length + 1 ∧ b ≤ k ∧ l.length ≤ k ∧ iv = .int .i64 k ∧ bv = .int .i64 b ∧ av = .slice A' l.length c' ∧ Hid (RsAt t k b l) ∧ Hid (wr.ownsRow w.heap.size 50 3 (.slice A' l.length c') l.length (t3s l)) ∧ Below w.heap.size w wr) (fun _ _ iv _ => t.length + 1 - (intOf iv).toNat)
 case atStart => exact ⟨0, 0, _, 0, [], by omega, by omega, by simp, rfl, rfl, rfl, rsAt_0 t, ownEmpty w w.heap.size 50 3 (Nat.le_refl _), by exact tacT⟩
 case round =>
  clear hB1
  obtain ⟨k, b, A', c', l, hk, hbk, hlk, rfl, rfl, rfl, HI, HO, hB⟩ := hrel
  have hbs := hB.size
  have hb0 : (0 : Int) ≤ (b : Int) := by omega
  have hk0 : (0 : Int) ≤ (k : Int) := by omega
  have hbk' : (b : Int) ≤ (k : Int) := by omega
  have hr_q : Row2 wr w.heap.size wr.heap.size 50 3 A' l.length c' (t3s l) := Row2.born HO.out
  clear HO
  by_cases hlt : k ≤ t.length
  ·have hk1 : (k : Int) ≤ (t.length : Int) := by omega
   have hcase : (k = t.length) ∨ (∃ x, t[k]? = some x ∧ k < t.length ∧ x = 10) ∨ (∃ x, t[k]? = some x ∧ k < t.length ∧ x ≠ 10) := by
    by_cases h9 : k = t.length
    ·exact .inl h9
    ·have hx : t[k]? = some t[k] := List.getElem?_eq_getElem (by omega)
     by_cases h8 : t[k] = 10
     ·exact .inr (.inl ⟨_, hx, by omega, h8⟩)
     ·exact .inr (.inr ⟨_, hx, by omega, h8⟩)
   have hend : (k = t.length ∨ t[k]? = some 10) → ∃ RL, rsAl (rcL t) [] = rsAl ((t.take k).drop b :: RL) l ∧ ∀ l', rsAl (rcL t) [] = rsAl RL l' → RsAt t (k + 1) (k + 1) l' := rsAt_end HI.out hlt
   have HEND := Lib.hid hend
   clear hend
   rcases hcase with h9 | ⟨x, hx, hk2, h10⟩ | ⟨x, hx, hk2, h10⟩
   case inr.inr =>
    have hbx : ∀ h, (⟨t.toArray⟩ : ByteArray)[k]'h = x := fun h => by
     obtain ⟨hk3, h8⟩ := List.getElem?_eq_some_iff.1 hx
     rw [← h8]; rfl
    have hk3 : (k : Int) < (t.length : Int) := by omega
    have e4 : ¬ (x.toNat : Int) = 10 := fun e => h10 (UInt8.toNat_inj.1 (by show x.toNat = 10; omega))
    have e3 : ((x.toNat : Int) != 10) = true := by simpa using e4
    have HN : Hid (RsAt t (k + 1) b l) := rsAt_ch HI.out hx hbk h10
    clear hx h10 HI HEND
    go_wp2_with fail
    go_roundw
    case rel => exact ⟨k + 1, b, A', c', l, by omega, by omega, by omega, by go_num, rfl, rfl, HN.out, hr_q.1, hB⟩
    case measure => simp [intOf]; omega
   all_goals
    first
    |(obtain ⟨RL, hRL, hgo⟩ := HEND.out (.inl h9)
      have e0 : ¬ (k : Int) < (t.length : Int) := by omega
      have e00 : decide ((k : Int) < (t.length : Int)) = false := decide_eq_false e0
      have e01 : decide (k < t.length) = false := decide_eq_false (by omega)
      clear h9)
    |(obtain ⟨RL, hRL, hgo⟩ := HEND.out (.inr (by rw [hx, h10]))
      have hbx : ∀ h, (⟨t.toArray⟩ : ByteArray)[k]'h = x := fun h => by
       obtain ⟨hk3, h8⟩ := List.getElem?_eq_some_iff.1 hx
       rw [← h8]; rfl
      have hk3 : (k : Int) < (t.length : Int) := by omega
      have e4 : (x.toNat : Int) = 10 := by rw [h10]; rfl
      have e3 : ((x.toNat : Int) != 10) = false := by rw [e4]; rfl
      clear hx h10)
    obtain ⟨pc, hpc⟩ : ∃ pc, pc = (t.take k).drop b := ⟨_, rfl⟩
    have e5 : (⟨t.toArray⟩ : ByteArray).extract b k = ⟨pc.toArray⟩ := by rw [hpc]; exact ext_b t b k
    have hpcl : pc.length ≤ 1048576 := by rw [hpc, List.length_drop, List.length_take]; omega
    rw [← hpc] at hRL
    have HRL := Lib.hid hRL
    have HGO := Lib.hid hgo
    have HSF := Lib.hid (fun W => SplitFieldsS_any pc W)
    have HPA : Hid (∀ W, Tab W → Calls Tryz.prog 22 #[sv pc] W (PaRet pc W)) := fun W h => ParseActS_ret pc W h hpcl
    unfold PaRet at HPA
    obtain ⟨ok, hok⟩ : ∃ ok, ok = sfOk pc := ⟨_, rfl⟩
    obtain ⟨fs, hfs⟩ : ∃ fs, fs = sfX pc := ⟨_, rfl⟩
    obtain ⟨pi, hpi⟩ : ∃ pi, pi = paI pc := ⟨_, rfl⟩
    obtain ⟨⟨ax, ay, az⟩, hpx⟩ : ∃ r, r = paX pc := ⟨_, rfl⟩
    have hbk := blank_iff hok hfs
    rw [← hok, ← hfs] at HSF
    rw [← hpi, ← hpx] at HPA
    simp only at HPA
    have HPI := Lib.hid hpi
    have HPX := Lib.hid hpx
    clear hpc hRL hgo hok hfs hpi hpx HEND HI
    go_wp2_with fail
    refine (HSF.out _).mono ?_
    rintro e w2 ⟨Af, cf, rfl, _, hb⟩
    replace hB := hB.trans (Below.mono hb hB.size)
    have hz_w2 : wr.heap.size ≤ w2.heap.size := Below.size hb
    replace hr_q := Row2.below hr_q hb (by omega)
    clear hb
    clear HSF
    have hcase : (ok = true ∧ fs.length = 0) ∨ (ok = false ∨ (ok = true ∧ ¬ fs.length = 0)) := by
     cases ok
     ·exact .inr (.inl rfl)
     ·by_cases h : fs.length = 0
      ·exact .inl ⟨rfl, h⟩
      ·exact .inr (.inr ⟨rfl, h⟩)
    rcases hcase with ⟨rfl, h0⟩ | hcase
    ·have e6 : ((fs.length : Int) == 0) = true := by rw [h0]; rfl
     have HN : Hid (RsAt t (k + 1) (k + 1) l) := HGO.out l (by rw [HRL.out, rsAl_skip (by rw [hbk, h0]; rfl)])
     clear hbk HRL HGO
     go_wp2_with fail
     go_roundw
     case rel => exact ⟨k + 1, k + 1, A', c', l, by omega, by omega, by omega, by go_num, by go_num, rfl, HN.out, hr_q.1, hB⟩
     case measure => (simp [intOf]) <;> omega
    ·have hnb : blank pc = false := by
      rw [hbk]
      rcases hcase with rfl | ⟨rfl, hn⟩
      ·rfl
      ·rw [decide_eq_false hn]; rfl
     have HNB := Lib.hid hnb
     clear hbk hnb
     rcases hcase with rfl | ⟨rfl, hn⟩
     all_goals
      try have e6 : ((fs.length : Int) == 0) = false := beq_eq_false_iff_ne.2 (by omega)
      go_wp2_with fail
      refine (HPA.out _ (HTZ.out _ hB)).mono ?_
      rintro e w3 ⟨rfl, hb⟩
      replace hB := hB.trans (Below.mono hb hB.size)
      have hz_w3 : w2.heap.size ≤ w3.heap.size := Below.size hb
      replace hr_q := Row2.below hr_q hb (by omega)
      clear hb
      cases pi
      ·have HN := Lib.hid (HRN.out (by rw [HRL.out]; exact rsAl_bad HNB.out HPI.out.symm _ _))
       go_wp2_with fail
       refine bodyPost_ret (v := .tuple #[.slice (some ⟨w0.heap.size, 0, none⟩) 0 0, .bool false]) (by simp [results, Tryz.results6, go_sem]) rfl (HRET.out _ (by exact tacT) HN.out)
      ·have HN : Hid (RsAt t (k + 1) (k + 1) (l ++ [⟨ax, ay, az⟩])) := HGO.out _ (by rw [HRL.out, rsAl_take HNB.out HPI.out.symm, HPX.out])
       clear HRL HGO HPA
       go_upto_region 17 with fail
       first | refine name_world ?_ | refine name_wp ?_
       intro W4 hW
       replace hB : Below w.heap.size w W4 := by rw [hW]; exact tacT
       have hz_W4 : w3.heap.size ≤ W4.heap.size := by rw [hW]; exact sT
       replace kb_r : Blk W4 (w3.heap.size) 50 #[.int .i64 ax, .int .i64 ay, .int .i64 az] := by rw [hW]; exact blkT
       have hLW4_r := kb_r.lt
       replace hr_q : Row2 W4 (w.heap.size) (wr.heap.size) 50 3 A' (l.length) c' (t3s l) := by rw [hW]; exact rowT
       try clear kc_r kf_r
       clear hW
       have kc := kb_r.cells
       have hl4 := kb_r.lt
       have ho6 : (W4.alloc (.cells #[.int .i64 ax, .int .i64 ay, .int .i64 az] 50)).ownsRow w.heap.size 50 3 (.slice A' l.length c') l.length (t3s l) := (Row2.alloc hr_q _).1
       have hrd : Rd (W4.alloc (.cells #[.int .i64 ax, .int .i64 ay, .int .i64 az] 50)) (W4.alloc (.cells #[.int .i64 ax, .int .i64 ay, .int .i64 az] 50)).heap.size 3 (some ⟨W4.heap.size, 0, none⟩) 1 1 (t3s [⟨ax, ay, az⟩]) := Rd.of_own (row_oneA W4 W4.heap.size ax ay az (Nat.le_refl _))
       have hbs4 := hB.size
       go_wp2_with (at_builtin; refine wpList_appAll rfl _ _ 36 rfl w.heap.size 50 (.agg #[.int .i64 0, .int .i64 0, .int .i64 0]) 3 24 Tryz.underlying36 infoAct9 rfl (by decide) (.slice A' l.length c') l.length (t3s l) rfl ho6 _ (some ⟨W4.heap.size, 0, none⟩) 1 1 (t3s [⟨ax, ay, az⟩]) rfl hrd (t3s_one _) (by omega) (by omega) (by exact ooT) ?_)
       intro A3 c3 w5 ho5 hg5
       have hB5 := below_grown_own (hB.alloc hbs4 (.cells #[.int .i64 ax, .int .i64 ay, .int .i64 az] 50)) ho6 hg5 (Nat.le_refl _) (by exact oT)
       rw [← t3s_append] at ho5
       have H5 : Hid (w5.ownsRow w.heap.size 50 3 (.slice A3 (l ++ [(⟨ax, ay, az⟩ : T3)]).length c3) (l ++ [(⟨ax, ay, az⟩ : T3)]).length (t3s (l ++ [⟨ax, ay, az⟩])) ∧ Below w.heap.size w w5) := ⟨by rw [List.length_append]; exact ho5, hB5⟩
       clear ho5 hB5 hg5 ho6 hrd hr_q kb_r kc
       go_wp2_with fail
       go_roundw
       case rel => exact ⟨k + 1, k + 1, A3, c3, _, by omega, by omega, by rw [List.length_append, List.length_singleton]; omega, by go_num, by go_num, by rw [List.length_append]; rfl, HN.out, H5.out.1, H5.out.2⟩
       case measure => (simp [intOf]) <;> omega
  ·have hk1 : ¬ (k : Int) ≤ (t.length : Int) := by omega
   have hsome := HI.out.2 (by omega)
   by_cases h40 : 40 < l.length
   ·have e3 : (40 : Int) < (l.length : Int) := by omega
    have e4 : decide (40 < l.length) = true := decide_eq_true h40
    have HN := Lib.hid (HRO.out l hsome h40)
    clear hsome
    go_wp2_with fail
    refine bodyPost_ret (v := .tuple #[.slice (some ⟨w0.heap.size, 0, none⟩) 0 0, .bool false]) (by simp [results, Tryz.results6, go_sem]) rfl (HRET.out _ hB HN.out)
   have hl40 : l.length ≤ 40 := by omega
   have e3 : ¬ (40 : Int) < (l.length : Int) := by omega
   have e4 : decide (40 < l.length) = false := decide_eq_false h40
   have HYES := Lib.hid (HRY.out l hsome hl40)
   have HTB : Hid (Tab wr) := HTZ.out _ hB
   have HBW : Hid (Below w0.heap.size w0 wr) := HB1.out.trans (hB.mono HB1.out.size)
   clear hsome h40
   have hnb := sv0_nums (acts := l) hl40
   have h4 := fun (W : World) => SampleVillageS_any W
   have h1 := fun (W : World) (A2 : Option Addr) (c2 : Nat) (R2 : Option Addr) (d2 : Nat) (q1 : RdT W W.heap.size A2 c2 (newV 200 100 1).book.evs) (q2 : RdT W W.heap.size R2 d2 (newV 200 100 1).rights) (q3 : RdT W W.heap.size A' c' l) => RunActsS_any A2 c2 R2 d2 (newV 200 100 1) A' c' l W q1 q2 q3 (by simp [newV])
   have hout : outOf l = (runActs (newV 200 100 1) l).2.map Lib.itoa ++ fmtV (runActs (newV 200 100 1) l).1 := rfl
   have hnv : sv0 = newV 200 100 1 := rfl
   rw [hnv] at hnb
   obtain ⟨⟨x, ns⟩, hE⟩ : ∃ r, runActs (newV 200 100 1) l = r := ⟨_, rfl⟩
   rw [hE] at h1 hnb hout
   simp only at hnb hout
   have hlx := vg_lens hnb.2.2
   have h6 := fun (W : World) (A2 : Option Addr) (c2 : Nat) (R2 : Option Addr) (d2 : Nat) (q1 : RdT W W.heap.size A2 c2 x.book.evs) (q2 : RdT W W.heap.size R2 d2 x.rights) (q3 : Tab W) => FormatVillageS_any A2 c2 R2 d2 x W q1 q2 (by omega) q3
   have hfl := fmtV_len9 x
   unfold RunRet at h1
   unfold VgOne at h4
   unfold Vg.val at h1 h4 h6
   simp only [newV, List.length_nil, List.length_cons, Nat.zero_add] at h4
   simp only [newV, List.length_nil, List.length_cons, Nat.zero_add] at h1
   obtain ⟨fm, hfm⟩ : ∃ fm, fm = fmtV x := ⟨_, rfl⟩
   rw [← hfm] at h6 hfl hout
   obtain ⟨⟨room, start, el, lv, ra, dr, lo⟩, rs⟩ := x
   simp only at h1 h6
   have hn40 : ns.length ≤ 40 := by omega
   have HNB := Lib.hid hnb.2.1
   have HOUT := Lib.hid hout
   have H1 := Lib.hid h1
   have H4 := Lib.hid h4
   have HVF := Lib.hid h6
   have HTY : Hid (∀ W, Below w.heap.size w W → Tab W) := fun W hb => ht.below (HB1.out.trans (hb.mono HB1.out.size))
   clear h1 h4 h6 hout hnb hfm hE hlx hnv HI
   go_wp2_with fail
   refine (H4.out _).mono ?_
   rintro e w2 ⟨A2, c2, R2, d2, rfl, ho1, ho2, hb⟩
   have hr_e2 := Row2.born ho1
   have hr_s2 := Row2.born ho2
   clear ho1 ho2
   replace hB := hB.trans (Below.mono hb hB.size)
   have hz_w2 : wr.heap.size ≤ w2.heap.size := Below.size hb
   replace hr_q := Row2.below hr_q hb (by omega)
   clear hb
   go_wp2_with fail
   refine (H1.out _ _ _ _ _ hr_e2.rd hr_s2.rd hr_q.rd).mono ?_
   rintro e w3 ⟨A3, c3, R3, d3, B3, n3, rfl, la, lb, na, nb, -, hq0, -, hq2, -, hr_e, hr_s, hr_n, hb⟩
   replace hB := hB.trans (Below.mono hb hB.size)
   have hz_w3 : w2.heap.size ≤ w3.heap.size := Below.size hb
   clear hb
   clear H1 H4 hr_e2 hr_s2 hr_q
   go_upto_region 21 with fail
   first | refine name_world ?_ | refine name_wp ?_
   intro W4 hW
   replace hB : Below w.heap.size w W4 := by rw [hW]; exact tacT
   have hz_W4 : w3.heap.size ≤ W4.heap.size := by rw [hW]; exact sT
   replace kb_x : Blk W4 (w3.heap.size) 35 #[.int .i64 room, .int .i64 start, .slice A3 el.length c3, .int .i64 lv, .int .i64 ra, .int .i64 dr, .int .i64 lo, .slice R3 rs.length d3] := by rw [hW]; exact blkT
   have hLW4_x := kb_x.lt
   replace hr_e : Row2 W4 (la) (lb) 120 3 A3 (el.length) c3 (t3s el) := by rw [hW]; exact rowT
   replace hr_s : Row2 W4 (la) (lb) 69 3 R3 (rs.length) d3 (t3s rs) := by rw [hW]; exact rowT
   replace hr_n : Row2 W4 (na) (nb) 3 1 B3 (ns.length) n3 (ints ns) := by rw [hW]; exact rowT
   try clear kc_x kf_x
   clear hW
   have HRE := Lib.hid (And.intro hr_e.rd hr_s.rd)
   have hrn : RdI W4 W4.heap.size B3 n3 ns := hr_n.rd
   have HRN := Lib.hid hrn
   have HKX := Lib.hid kb_x
   have hBW4 := Lib.hid hB
   have hzw4 := hB.size
   clear hr_e hr_s hr_n hrn kb_x hB
   obtain ⟨wo, rfl⟩ : ∃ wo : World, wo = wr := ⟨_, rfl⟩
   go_wp2_with fail
   go_loopw [15, 16] (fun v i wq => ∃ (k : Nat) (A' : Option Addr) (c' : Nat) (out : List (List UInt8)), k ≤ ns.length ∧ i = .int .i64 k ∧ v = .slice A' out.length c' ∧ Hid (out = (ns.take k).map Lib.itoa ∧ out.length = k) ∧ Hid (OwnSt wq W4.heap.size A' c' out) ∧ Below W4.heap.size W4 wq) (fun _ i _ => ns.length - (intOf i).toNat)
   case atStart => exact ⟨0, _, 0, [], Nat.zero_le _, rfl, rfl, ⟨by simp, rfl⟩, ownEmpty W4 W4.heap.size 9 1 (Nat.le_refl _), Below.alloc (Below.refl _ _) (Nat.le_refl _) _⟩
   case round =>
    obtain ⟨k, A', c', out, hk, rfl, rfl, HL, HO, hB⟩ := hrel
    have hbs := hB.size
    have hol : out.length ≤ 40 := by have := HL.out.2; omega
    by_cases hlt : k < ns.length
    ·obtain ⟨b9, o9, z, rfl, hb9, hz, hc9⟩ := HRN.out.at_ hlt
     have f0 : wr.cell? ⟨b9, o9 + k, none⟩ = some (.int .i64 z) := (hB.cell (p := ⟨b9, _, none⟩) hb9).trans hc9
     have hlb : b9 < wr.heap.size := by omega
     have hk0 : (0 : Int) ≤ (k : Int) := by omega
     have hk1 : (k : Int) < (ns.length : Int) := by omega
     have hzb := HNB.out z (List.mem_of_getElem? hz)
     have HFI := Lib.hid (fun (W : World) (_ : Tab W) => FormatIntS_any z W (by omega) (by omega))
     obtain ⟨tz, htz⟩ : ∃ tz, tz = Lib.itoa z := ⟨_, rfl⟩
     rw [← htz] at HFI
     have HN : Hid (out ++ [tz] = (ns.take (k + 1)).map Lib.itoa ∧ (out ++ [tz]).length = k + 1) := ⟨by rw [List.take_add_one, hz, HL.out.1, htz]; simp, by rw [List.length_append, HL.out.2]; rfl⟩
     have HTQ := Lib.hid (HTY.out _ (hBW4.out.trans (hB.mono hBW4.out.size)))
     clear hz htz hc9 HL
     go_wp2_with fail
     refine (HFI.out _ HTQ.out).mono ?_
     rintro e w5 ⟨rfl, hb⟩
     have ho6 : OwnSt (w5.alloc (.cells #[sv tz] 9)) W4.heap.size A' c' out := World.ownsRow.alloc (own_below HO.out hb (Nat.le_refl _)) _
     have hB5 := hB.trans (hb.mono hB.size)
     have hbs5 := hB5.size
     clear hb HO hB f0 HFI
     go_wp2_with (at_builtin; refine wpList_appSt rfl _ _ rfl W4.heap.size A' c' out rfl ho6 w5.heap.size tz rfl (cell_new1 _ _ _) (by omega) (by exact oT) ?_)
     intro A5 c5 w6 ho7 hg7
     have hB6 := below_grown_own (hB5.alloc hbs5 (.cells #[sv tz] 9)) ho6 hg7 (Nat.le_refl _) (by exact oT)
     have H6 := Lib.hid (And.intro ho7 hB6)
     clear ho7 hB6 hg7 ho6
     go_wp2_with fail
     go_roundw
     case rel => exact ⟨k + 1, A5, c5, out ++ [tz], by omega, by go_num, by rw [List.length_append]; rfl, HN.out, H6.out.1, H6.out.2⟩
     case measure => simp [intOf]; omega
    ·obtain rfl : k = ns.length := by omega
     have hk1 : ¬ (ns.length : Int) < (ns.length : Int) := by omega
     have kb_x := HKX.out.below hB HKX.out.lt
     have kc_x := kb_x.cells
     have hl_x := kb_x.lt
     have hout : out = ns.map Lib.itoa := by have := HL.out.1; rwa [List.take_length] at this
     have HFIN : Hid (rcX t = out ++ fm ∧ rcI t = true) := ⟨by rw [HYES.out.1, HOUT.out, hout], HYES.out.2⟩
     have HTQ := Lib.hid (HTY.out _ (hBW4.out.trans (hB.mono hBW4.out.size)))
     have HRE2 := Lib.hid (And.intro (RdT.below HRE.out.1 hB) (RdT.below HRE.out.2 hB))
     have HBF : Hid (Below w0.heap.size w0 wr) := HB1.out.trans ((hBW4.out.trans (hB.mono hBW4.out.size)).mono HB1.out.size)
     have hzz := HB1.out.size
     clear kb_x hout HL HYES HOUT HRE HRN HKX
     go_wp2_with fail
     refine (HVF.out _ _ _ _ _ HRE2.out.1 HRE2.out.2 HTQ.out).mono ?_
     rintro e w5 ⟨AF, cF, rfl, hoF, hb⟩
     have ho5 : OwnSt w5 W4.heap.size A' c' out := own_below HO.out hb (Nat.le_refl _)
     have hB5 := hB.trans (hb.mono hB.size)
     have HBF5 : Hid (Below w0.heap.size w0 w5) := HBF.out.trans (hb.mono HBF.out.size)
     have hbs5 := hB5.size
     have hrF : RdSt w5 w5.heap.size AF cF fm := OwnSt.rd hoF
     clear hb HO hB kc_x hl_x hoF
     go_wp2_with (at_builtin; refine wpList_appAll rfl _ _ 22 rfl W4.heap.size 9 (.string ⟨#[]⟩) 1 16 Tryz.underlying22 infoSt rfl (by decide) (.slice A' out.length c') out.length (strs out) rfl ho5 _ AF fm.length cF (strs fm) rfl hrF (strs_one fm) (by omega) (by omega) (by exact ooT) ?_)
     intro A6 c6 w6 ho6 hg6
     have hB6 := below_grown_own HBF5.out ho5 hg6 (by omega) HBF5.out.size
     have ho7 : OwnSt w6 w0.heap.size A6 c6 (out ++ fm) := by
      unfold OwnSt
      rw [strs_app, List.length_append]
      exact (Row2.mono (Row2.born ho6) (lo' := w0.heap.size) (by omega) (Nat.le_refl _)).1
     have H7 : Hid (RcRet t w0 (.returned (.tuple #[.slice A6 (out.length + fm.length) c6, .bool true])) w6) := by
      refine ⟨A6, c6, ?_, ?_, hB6⟩
      ·rw [HFIN.out.1, HFIN.out.2, List.length_append]
      ·rw [HFIN.out.1]; exact ho7
     clear ho6 ho7 hg6 ho5 hB6
     go_wp2_with fail
     exact bodyPost_ret (v := .tuple #[.slice A6 (out.length + fm.length) c6, .bool true]) (by simp [results, Tryz.results6, go_sem]) rfl H7.out
theorem RunScriptS_any (t : List UInt8) (w : World) (ht : Tab w) (hs : t.length ≤ 1048576) :
  Calls Tryz.prog 6 #[sv t] w fun e w' => ∃ A' c', e = .returned (.tuple #[.slice A' (rcX t).length c', .bool (rcI t)]) ∧ OwnSt w' w.heap.size A' c' (rcX t) ∧ Below w.heap.size w w' := RunScriptS_ret t w ht hs
end
end Go.Proofs.YtpmmjhpmheooeaaGreatDoor
