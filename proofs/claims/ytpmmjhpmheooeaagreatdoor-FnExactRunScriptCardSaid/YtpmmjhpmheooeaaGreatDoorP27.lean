/- Texts of the proof, joined: InheritS. -/
import Derived.Test.YtpmmjhpmheooeaaGreatDoorP24
import Derived.Test.YtpmmjhpmheooeaaGreatDoorP26
import Derived.BigQuiet
namespace Go.Proofs.YtpmmjhpmheooeaaGreatDoor
set_option linter.unusedSimpArgs false
set_option linter.unusedVariables false
section
open Go.RowKit
set_option maxRecDepth 20000
set_option maxHeartbeats 25600000 in
theorem InheritS_no1 (A : Option Addr) (c : Nat) (l : List T3) (o : Int) (B : Option Addr) (d : Nat) (hs : List Int) (w : World) (h : RdT w w.heap.size A c l) (hi : RdI w w.heap.size B d hs) (hsz : l.length ≤ 1048576) (g1 : rightsOk l = false) :
  Calls Tryz.prog 112 #[.slice A l.length c, .int .i64 o, .slice B hs.length d] w (SellRet (l, false) w) := by
 have hil := hi.le
 have H3 := Lib.hid (fun (W : World) (hb : Below w.heap.size w W) => RightsOkS_any A c l W (h.below hb))
 have hlc : l.length ≤ c := h.2.1
 have hc63 : c ≤ 9223372036854775807 := h.2.2.1
 rw [g1] at H3
 go_enter Tryz.func112, Tryz.ntmps112
 go_wp2_with (at_builtin; refine wpList_appAll rfl _ _ 33 rfl w.heap.size 69 (.agg #[.int .i64 0, .int .i64 0, .int .i64 0]) 3 24 Tryz.underlying33 infoRight rfl (by decide) (.slice (some ⟨w.heap.size, 0, none⟩) 0 0) 0 [] rfl (ownEmpty' _ _ _ _ _ (by simp) (by exact ooT)) _ A l.length c (t3s l) rfl (h.below (by exact tacT)) (t3s_one l) (by omega) (by omega) (by exact ooT) ?_)
 intro A1 c1 w1 ho1 hg1
 try simp only [Nat.zero_add, List.nil_append] at ho1
 have hB : Below w.heap.size w w1 := Below.grown (by exact tacT) hg1 (by exact ooT) (by intro k hk; have h9 := Option.some.inj hk; first | omega | (simp at h9; omega))
 have hr_s : Row2 w1 w.heap.size w1.heap.size 69 3 A1 l.length c1 (t3s l) := Row2.born ho1
 clear ho1 hg1
 try simp only [Nat.zero_add]
 go_wp2_with fail
 refine (H3.out _ hB).mono ?_
 rintro e w3 ⟨rfl, hb⟩
 replace hB := hB.trans (Below.mono hb hB.size)
 have hz_w3 : w1.heap.size ≤ w3.heap.size := Below.size hb
 replace hr_s := Row2.below hr_s hb (by omega)
 clear hb
 go_wp2_with fail
 refine bodyPost_ret (v := .tuple #[.slice A1 l.length c1, .bool false]) ?_ rfl ?_
 ·simp [results, Tryz.results112, go_sem]
 ·exact ⟨A1, c1, rfl, (Row2.mono (lo := w.heap.size) (hi := w1.heap.size) (hi' := w1.heap.size) (by exact rowT) (by omega) (Nat.le_refl _)).1, by exact tacT⟩
set_option maxHeartbeats 25600000 in
theorem InheritS_no2 (A : Option Addr) (c : Nat) (l : List T3) (o : Int) (B : Option Addr) (d : Nat) (hs : List Int) (w : World) (h : RdT w w.heap.size A c l) (hi : RdI w w.heap.size B d hs) (hsz : l.length ≤ 1048576) (g1 : rightsOk l = true) (g3 : inB hs.length 1 6 = false) :
  Calls Tryz.prog 112 #[.slice A l.length c, .int .i64 o, .slice B hs.length d] w (SellRet (l, false) w) := by
 have hil := hi.le
 have H3 := Lib.hid (fun (W : World) (hb : Below w.heap.size w W) => RightsOkS_any A c l W (h.below hb))
 have hlc : l.length ≤ c := h.2.1
 have hc63 : c ≤ 9223372036854775807 := h.2.2.1
 rw [g1] at H3
 have HIN := Lib.hid g3
 go_enter Tryz.func112, Tryz.ntmps112
 go_wp2_with (at_builtin; refine wpList_appAll rfl _ _ 33 rfl w.heap.size 69 (.agg #[.int .i64 0, .int .i64 0, .int .i64 0]) 3 24 Tryz.underlying33 infoRight rfl (by decide) (.slice (some ⟨w.heap.size, 0, none⟩) 0 0) 0 [] rfl (ownEmpty' _ _ _ _ _ (by simp) (by exact ooT)) _ A l.length c (t3s l) rfl (h.below (by exact tacT)) (t3s_one l) (by omega) (by omega) (by exact ooT) ?_)
 intro A1 c1 w1 ho1 hg1
 try simp only [Nat.zero_add, List.nil_append] at ho1
 have hB : Below w.heap.size w w1 := Below.grown (by exact tacT) hg1 (by exact ooT) (by intro k hk; have h9 := Option.some.inj hk; first | omega | (simp at h9; omega))
 have hr_s : Row2 w1 w.heap.size w1.heap.size 69 3 A1 l.length c1 (t3s l) := Row2.born ho1
 clear ho1 hg1
 try simp only [Nat.zero_add]
 go_wp2_with fail
 refine (H3.out _ hB).mono ?_
 rintro e w3 ⟨rfl, hb⟩
 replace hB := hB.trans (Below.mono hb hB.size)
 have hz_w3 : w1.heap.size ≤ w3.heap.size := Below.size hb
 replace hr_s := Row2.below hr_s hb (by omega)
 clear hb
 go_wp2_with fail
 refine (l01In_any _ _ _ _).mono ?_
 rw [HIN.out]
 rintro e w' ⟨rfl, rfl⟩
 go_wp2_with fail
 refine bodyPost_ret (v := .tuple #[.slice A1 l.length c1, .bool false]) ?_ rfl ?_
 ·simp [results, Tryz.results112, go_sem]
 ·exact ⟨A1, c1, rfl, (Row2.mono (lo := w.heap.size) (hi := w1.heap.size) (hi' := w1.heap.size) (by exact rowT) (by omega) (Nat.le_refl _)).1, by exact tacT⟩
set_option maxHeartbeats 25600000 in
theorem InheritS_yes (A : Option Addr) (c : Nat) (l : List T3) (o : Int) (B : Option Addr) (d : Nat) (hs : List Int) (w : World) (h : RdT w w.heap.size A c l) (hi : RdI w w.heap.size B d hs) (hsz : l.length ≤ 1048576) (g1 : rightsOk l = true) (g3 : inB hs.length 1 6 = true) (y z : Int) (gs : shareOf l o = (y, z)) (s1 s2 : Int) (sok : Bool) (hq : splitF y z hs.length = (s1, s2, sok)) :
  Calls Tryz.prog 112 #[.slice A l.length c, .int .i64 o, .slice B hs.length d] w (SellRet (inhF l o hs) w) := by
 have hil := hi.le
 have H3 := Lib.hid (fun (W : World) (hb : Below w.heap.size w W) => RightsOkS_any A c l W (h.below hb))
 have hlc : l.length ≤ c := h.2.1
 have hc63 : c ≤ 9223372036854775807 := h.2.2.1
 obtain ⟨hl12, hl1, hall⟩ := rights_facts g1
 have hup := rights_up g1
 obtain ⟨n1, n6⟩ := inB_iff.1 g3
 have HSP : Hid (∀ W, Calls Tryz.prog 142 #[.agg #[.int .i64 y, .int .i64 z], .int .i64 hs.length] W fun e w' => e = frRet (s1, s2, sok) ∧ Below W.heap.size W w') := fun W => by rw [← hq]; exact SplitEquallyS_any _ _ _ W
 have HSH : Hid (∀ (k : Nat) (x : T3), l[k]? = some x → x.x = o → x.y = y ∧ x.z = z ∧ hasO (l.take k) o = false ∧ hasO l o = true) := fun k x hx hf => by
  have h9 := shareOf_at hup hx hf
  rw [gs] at h9
  exact ⟨(congrArg Prod.fst h9.1).symm, (congrArg Prod.snd h9.1).symm, h9.2.1, h9.2.2⟩
 have HPOS : Hid (∀ (k : Nat) (x : T3), l[k]? = some x → 1 ≤ x.y) := fun k x hx => (hall x (List.mem_of_getElem? hx)).2.1
 obtain ⟨R, hR⟩ : ∃ R, R = inhF l o hs := ⟨_, rfl⟩
 rw [← hR]
 have HNO : Hid (hasO l o = false → R = (l, false)) := fun h9 => by rw [hR]; exact inhG_no (by rw [h9]; simp)
 have HRB : Hid (riseB 0 hs = false → R = (l, false)) := fun h9 => by rw [hR]; exact inhG_no (by rw [h9]; simp)
 have HOM : Hid (o ∈ hs → R = (l, false)) := fun h9 => by rw [hR]; exact inhG_no (by simp [h9])
 have HBAD : Hid (sok = false → R = (l, false)) := fun h9 => by rw [hR]; exact inhF_none (by rw [inhTo_is gs hq, h9]; rfl)
 obtain ⟨q0, hq0⟩ : ∃ q0, q0 = cutS l o 0 1 := ⟨_, rfl⟩
 have HCUT : Hid (cutAll l o 0 1 = q0) := by rw [hq0]; exact cutAll_cutS hup (fun e he => (hall e he).2.1) (Int.le_refl 0)
 have HEND : Hid (sok = true → hasO l o = true → riseB 0 hs = true → ¬ o ∈ hs → R = match addAll q0 hs s1 s2 with | some r => if rightsOk r then (r, true) else (l, false) | none => (l, false)) := fun h9 h8 h7 h6 => by
  subst h9
  rw [hR, hq0]
  exact addAll_end (inhG_iff.2 ⟨g1, h8, g3, h7, h6⟩) gs hq
 have HNONE : Hid (sok = true → hasO l o = true → addAll q0 hs s1 s2 = none → R = (l, false)) := fun h9 h8 h5 => by
  cases h7 : riseB 0 hs
  ·exact HRB h7
  ·by_cases h6 : o ∈ hs
   ·exact HOM h6
   ·rw [HEND h9 h8 h7 h6, h5]
 rw [g1] at H3
 have HIN := Lib.hid g3
 have hrdl := Lib.hid (fun (W : World) (hb : Below w.heap.size w W) => h.below hb)
 have HRI := Lib.hid (fun (W : World) (hb : Below w.heap.size w W) => hi.below hb)
 have hil2 : (hs.length : Int) ≤ (d : Int) := by omega
 have hd63 : d ≤ 9223372036854775807 := hil.2
 have HRK : Hid (∀ (W : World) (A : Option Addr) (c n : Nat) (r : List T3), r.length = n → Rd W W.heap.size 3 A n c (t3s r) → Calls Tryz.prog 79 #[.slice A n c] W fun e w' => e = .returned (.bool (rightsOk r)) ∧ Below W.heap.size W w') := fun W A c n r hn hr => by subst hn; exact RightsOkS_any A c r W hr
 clear hR hall hup hq hq0 gs g1 g3 hi
 go_enter Tryz.func112, Tryz.ntmps112
 go_wp2_with (at_builtin; refine wpList_appAll rfl _ _ 33 rfl w.heap.size 69 (.agg #[.int .i64 0, .int .i64 0, .int .i64 0]) 3 24 Tryz.underlying33 infoRight rfl (by decide) (.slice (some ⟨w.heap.size, 0, none⟩) 0 0) 0 [] rfl (ownEmpty' _ _ _ _ _ (by simp) (by exact ooT)) _ A l.length c (t3s l) rfl (h.below (by exact tacT)) (t3s_one l) (by omega) (by omega) (by exact ooT) ?_)
 intro A1 c1 w1 ho1 hg1
 try simp only [Nat.zero_add, List.nil_append] at ho1
 have hB : Below w.heap.size w w1 := Below.grown (by exact tacT) hg1 (by exact ooT) (by intro k hk; have h9 := Option.some.inj hk; first | omega | (simp at h9; omega))
 have hr_s : Row2 w1 w.heap.size w1.heap.size 69 3 A1 l.length c1 (t3s l) := Row2.born ho1
 clear ho1 hg1
 try simp only [Nat.zero_add]
 go_wp2_with fail
 refine (H3.out _ hB).mono ?_
 rintro e w3 ⟨rfl, hb⟩
 replace hB := hB.trans (Below.mono hb hB.size)
 have hz_w3 : w1.heap.size ≤ w3.heap.size := Below.size hb
 replace hr_s := Row2.below hr_s hb (by omega)
 clear hb
 go_wp2_with fail
 refine (l01In_any _ _ _ _).mono ?_
 rw [HIN.out]
 rintro e w' ⟨rfl, rfl⟩
 go_wp2_with fail
 have hww3 := hB.size
 first | refine name_world ?_ | refine name_wp ?_
 intro W5 hW
 replace hB : Below w.heap.size w W5 := by rw [hW]; exact tacT
 have hz_W5 : w3.heap.size + 1 < W5.heap.size := by rw [hW]; exact sT
 have kb5_m : Blk W5 (w3.heap.size + 1) 67 #[.int .i64 0, .int .i64 0] := by rw [hW]; exact blkT
 have hr5_s : Row2 W5 w.heap.size w1.heap.size 69 3 A1 l.length c1 (t3s l) := by rw [hW]; exact rowT
 have ho5 : W5.ownsRow w3.heap.size 69 3 (.slice (some ⟨w3.heap.size, 0, none⟩) 0 0) 0 [] := by rw [hW]; exact World.ownsRow.alloc (ownEmpty w3 w3.heap.size _ _ (Nat.le_refl _)) _
 clear hW hr_s
 go_loopw [9, 11, 12] (fun ov fv kv wr => ∃ (k g c' : Nat) (fd : Bool) (v1 v2 : Int), k ≤ l.length ∧ ov = .slice (some ⟨g, 0, none⟩) (cutAll (l.take k) o 0 1).length c' ∧ fv = .bool fd ∧ kv = .int .i64 k ∧ Hid (fd = hasO (l.take k) o) ∧ Hid (fd = true → v1 = s1 ∧ v2 = s2 ∧ sok = true) ∧ Hid (wr.ownsRow w3.heap.size 69 3 (.slice (some ⟨g, 0, none⟩) (cutAll (l.take k) o 0 1).length c') (cutAll (l.take k) o 0 1).length (t3s (cutAll (l.take k) o 0 1))) ∧ Blk wr (w3.heap.size + 1) 67 #[.int .i64 v1, .int .i64 v2] ∧ Row2 wr w.heap.size w1.heap.size 69 3 A1 l.length c1 (t3s l) ∧ Below w.heap.size w wr) (fun _ _ kv _ => l.length - (intOf kv).toNat)
 case atStart => exact ⟨0, w3.heap.size, 0, false, 0, 0, Nat.zero_le _, rfl, rfl, rfl, rfl, (fun h9 => by cases h9), ho5, kb5_m, hr5_s, hB⟩
 case round =>
  clear kb5_m hr5_s ho5 hB
  obtain ⟨k, g, c', fd, v1, v2, hk, rfl, rfl, rfl, HFD, HV, HO, kb_m, hr_s, hB⟩ := hrel
  obtain ⟨q, hq⟩ : ∃ q, q = cutAll (l.take k) o 0 1 := ⟨_, rfl⟩
  rw [← hq] at HO ⊢
  have hql : q.length ≤ 12 := by rw [hq]; have := cutAll_len (l.take k) o 0 1; rw [List.length_take] at this; omega
  have HQ := Lib.hid hq
  clear hq
  have kc_m := kb_m.cells
  have kf_m := kb_m.frozens
  have hl_m := kb_m.lt
  have hn_m := Nat.ne_of_lt kb_m.lt
  have hws := hB.size
  have hgw : w3.heap.size ≤ g := (HO.out.lt g rfl).1
  have hgr : g < wr.heap.size := (HO.out.lt g rfl).2
  have hgm : g ≠ w3.heap.size + 1 := own_ne_blk HO.out kb_m (by decide)
  by_cases hlt : k < l.length
  ·obtain ⟨bb, oo, x, rfl, hbb, hx, e0, e1, e2⟩ := (hrdl.out w (Below.refl _ _)).at_ hlt
   have f0 : wr.cell? ⟨bb, oo + k * 3, none⟩ = some (.int .i64 x.x) := (hB.cell (p := ⟨bb, _, none⟩) hbb).trans e0
   have f1 : wr.cell? ⟨bb, oo + k * 3 + 1, none⟩ = some (.int .i64 x.y) := (hB.cell (p := ⟨bb, _, none⟩) hbb).trans e1
   have f2 : wr.cell? ⟨bb, oo + k * 3 + 2, none⟩ = some (.int .i64 x.z) := (hB.cell (p := ⟨bb, _, none⟩) hbb).trans e2
   have f2' : wr.cell? ⟨bb, oo + k * 3 + 1 + 1, none⟩ = some (.int .i64 x.z) := f2
   clear e0 e1 e2
   have hk0 : (0 : Int) ≤ (k : Int) := by omega
   have hk1 : (k : Int) < (l.length : Int) := by omega
   have hxy := HPOS.out k x hx
   have HX := Lib.hid hx
   clear hx
   by_cases hxf : x.x = o
   ·obtain ⟨rfl, rfl, hno, hyes⟩ := HSH.out k x HX.out hxf
    have hxd : (x.x != o) = false := by simp [hxf]
    have hfd : fd = false := by rw [HFD.out]; exact hno
    subst hfd
    have HNY := Lib.hid (And.intro hno hyes)
    have HXF := Lib.hid hxf
    clear hno hyes hxf
    have hr_o := row_at HO.out
    go_wp2_with fail
    refine (HSP.out _).mono ?_
    rintro e wa ⟨rfl, hb⟩
    unfold frRet
    replace hB := hB.trans (Below.mono hb hB.size)
    have hz_wa : wr.heap.size ≤ wa.heap.size := Below.size hb
    replace kb_m := kb_m.mv hb; obtain ⟨kb_m, kc_m, kf_m, hl_m, hn_m⟩ := kb_m
    replace hr_s := Row2.below hr_s hb (by omega)
    replace hr_o := Row2.below hr_o hb (by omega)
    clear hb
    have ham : wa.heap.size ≠ w3.heap.size + 1 := by omega
    have ham' : w3.heap.size + 1 ≠ wa.heap.size := by omega
    cases sok
    ·have HR9 := Lib.hid (HBAD.out rfl)
     go_wp2_with fail
     refine bodyPost_ret (v := .tuple #[.slice A1 l.length c1, .bool false]) ?_ rfl ?_
     ·simp [results, Tryz.results112, go_sem]
     ·rw [HR9.out]; exact ⟨A1, c1, rfl, (Row2.mono (lo := w.heap.size) (hi := w1.heap.size) (hi' := w1.heap.size) (by exact rowT) (by omega) (Nat.le_refl _)).1, by exact tacT⟩
    ·have hsn : cutAll (l.take (k + 1)) o 0 1 = q := by rw [take_snocT HX.out, cutAll_snoc, ← HQ.out]; unfold one3; rw [if_pos HXF.out, if_neg (by omega)]; simp
     have HSN := Lib.hid hsn
     clear hsn
     go_wp2_with fail
     go_roundw
     case rel =>
      refine ⟨k + 1, g, c', true, s1, s2, by omega, by rw [HSN.out], rfl, by go_num, by show true = _; rw [take_snocT HX.out, hasO_snoc]; rw [HNY.out.1, HXF.out]; simp, (fun _ => by simp), ?_, by exact blkT, by exact rowT, by exact tacT⟩
      rw [HSN.out]
      exact (Row2.mono (lo' := w3.heap.size) (hi' := g + 1) ((by (repeat' (first | (with_reducible assumption) | (with_reducible refine Row2.far ?_ ?_ _) | (with_reducible refine Row2.alloc ?_ _) | (with_reducible refine Row2.drewN ?_ _) | (with_reducible refine Row2.drew ?_) | (left; dsimp only; omega) | (right; dsimp only; omega))); all_goals (dsimp only; omega)) : Row2 _ g (g + 1) 69 3 (some ⟨g, 0, none⟩) q.length c' (t3s q)) (by omega) (Nat.le_refl _)).1
     case measure => simp [intOf]; omega
   ·have hxd : (x.x != o) = true := by simp [hxf]
    have HXF := Lib.hid hxf
    clear hxf
    go_wp2_with (at_builtin; refine wpList_appB rfl _ _ 33 rfl w3.heap.size 69 (.agg #[.int .i64 0, .int .i64 0, .int .i64 0]) 3 24 Tryz.underlying33 infoRight rfl (by decide) (.slice (some ⟨g, 0, none⟩) q.length c') q.length (t3s q) rfl ?_ _ _ 1 1 (t3s [⟨x.x, x.y, x.z⟩]) rfl (rd_blk (t := 69) ?_) (t3s_one _) (by omega) (by omega) ?_ ?_; (focus (exact World.ownsRow.alloc HO.out _)); (focus (exact blkT)); (focus (first | omega | (simp; omega))); intro A9 c9 wq ho9 hg9 kb9)
    rw [← t3s_append] at ho9
    replace hg9 : World.grownBy _ wq (some g) := hg9
    have hm9 : Blk wq (w3.heap.size + 1) 67 #[.int .i64 v1, .int .i64 v2] := kb9 _ _ _ (by decide) (by exact blkT)
    have hs9 : Row2 wq w.heap.size w1.heap.size 69 3 A1 l.length c1 (t3s l) := Row2.grown (by exact rowT) hg9 (.inr (by omega))
    have hB9 : Below w.heap.size w wq := Below.grown (by exact tacT) hg9 (by exact oT) (by intro j hj; have := Option.some.inj hj; omega)
    obtain ⟨g9, cur9, rfl, -⟩ := own_open ho9 (.inl (by omega))
    have hsn : cutAll (l.take (k + 1)) o 0 1 = q ++ [⟨x.x, x.y, x.z⟩] := by rw [take_snocT HX.out, cutAll_snoc, ← HQ.out]; unfold one3; rw [if_neg HXF.out, if_pos (by omega)]
    have H9 := Lib.hid (And.intro ho9 (And.intro hm9 (And.intro hs9 (And.intro hB9 hsn))))
    clear ho9 hm9 hs9 hB9 hsn hg9 kb9
    go_wp2_with fail
    go_roundw
    case rel => exact ⟨k + 1, g9, c9, fd, v1, v2, by omega, by rw [H9.out.2.2.2.2, List.length_append]; rfl, rfl, by go_num, by show fd = _; rw [take_snocT HX.out, hasO_snoc]; rw [← HFD.out, beq_eq_false_iff_ne.2 HXF.out]; simp, HV.out, by rw [H9.out.2.2.2.2, List.length_append]; exact H9.out.1, H9.out.2.1, H9.out.2.2.1, H9.out.2.2.2.1⟩
    case measure => simp [intOf]; omega
  ·obtain rfl : k = l.length := by omega
   cases fd
   ·have HR9 := Lib.hid (HNO.out (by have h9 := HFD.out; rw [List.take_length] at h9; exact h9.symm))
    go_wp2_with fail
    refine bodyPost_ret (v := .tuple #[.slice A1 l.length c1, .bool false]) ?_ rfl ?_
    ·simp [results, Tryz.results112, go_sem]
    ·rw [HR9.out]; exact ⟨A1, c1, rfl, (Row2.mono (lo := w.heap.size) (hi := w1.heap.size) (hi' := w1.heap.size) (by exact rowT) (by omega) (Nat.le_refl _)).1, by exact tacT⟩
   ·obtain ⟨rfl, rfl, rfl⟩ := HV.out rfl
    have hyes : hasO l o = true := by have h9 := HFD.out; rw [List.take_length] at h9; exact h9.symm
    have HEN := Lib.hid (HEND.out rfl hyes)
    have HNN := Lib.hid (HNONE.out rfl hyes)
    have HQQ : Hid (q = q0) := by show _ = _; rw [HQ.out, List.take_length]; exact HCUT.out
    clear hyes HNO HBAD HEND HNONE HFD HV HSH HPOS HSP HQ HCUT
    have kb0_m := kb_m
    have hr0_s := hr_s
    have hB0 := hB
    have HO0 := HO
    clear kc_m kf_m hl_m hn_m
    obtain ⟨wo, rfl⟩ : ∃ wo : World, wo = wr := ⟨_, rfl⟩
    go_wp2_with fail
    go_loopw [9, 15] (fun ov iv wr => ∃ (i g c' : Nat) (q : List T3) (pv : Int), i ≤ hs.length ∧ ov = .slice (some ⟨g, 0, none⟩) q.length c' ∧ iv = .int .i64 i ∧ Hid (riseB 0 hs = riseB pv (hs.drop i) ∧ (o ∈ hs ↔ o ∈ hs.drop i) ∧ addAll q0 hs v1 v2 = addAll q (hs.drop i) v1 v2) ∧ Hid ((i = 0 → pv = 0) ∧ (0 < i → hs[i - 1]? = some pv)) ∧ q.length ≤ 12 + i ∧ Hid (wr.ownsRow w3.heap.size 69 3 (.slice (some ⟨g, 0, none⟩) q.length c') q.length (t3s q)) ∧ Blk wr (w3.heap.size + 1) 67 #[.int .i64 v1, .int .i64 v2] ∧ Row2 wr w.heap.size w1.heap.size 69 3 A1 l.length c1 (t3s l) ∧ Below w.heap.size w wr) (fun _ iv _ => hs.length - (intOf iv).toNat)
    case atStart => exact ⟨0, g, c', q, 0, Nat.zero_le _, rfl, rfl, ⟨rfl, Iff.rfl, by show addAll q0 hs v1 v2 = addAll q hs v1 v2; rw [HQQ.out]⟩, ⟨fun _ => rfl, fun h9 => by omega⟩, by omega, HO0.out, kb0_m, hr0_s, hB0⟩
    case round =>
     clear kb0_m hr0_s HO0 HO hr_s kb_m hB hgw hgr hgm hB0
     obtain ⟨i, g, c', q, pv, hi9, rfl, rfl, HAA, HPV, hqn, HO, kb_m, hr_s, hB⟩ := hrel
     have kc_m := kb_m.cells
     have kf_m := kb_m.frozens
     have hl_m := kb_m.lt
     have hws := hB.size
     have hgw : w3.heap.size ≤ g := (HO.out.lt g rfl).1
     have hi0 : (0 : Int) ≤ (i : Int) := by omega
     by_cases hlt2 : i < hs.length
     ·obtain ⟨b2, o2, yv, hA2, hb2, hy, e3⟩ := (HRI.out w (Below.refl _ _)).at_ hlt2
      have hprev : 0 < i → wr.cell? ⟨b2, o2 + (i - 1), none⟩ = some (.int .i64 pv) := fun h0 => by
       obtain ⟨b3, o3, y3, hA3, hb3, hy3, e4⟩ := (HRI.out w (Below.refl _ _)).at_ (k := i - 1) (by omega)
       rw [hA2] at hA3
       simp only [Option.some.injEq, Addr.mk.injEq, and_true] at hA3
       obtain ⟨rfl, rfl⟩ := hA3
       rw [HPV.out.2 h0] at hy3
       rw [Option.some.inj hy3]
       exact (hB.cell (p := ⟨b2, _, none⟩) hb2).trans e4
      subst hA2
      have f3 : wr.cell? ⟨b2, o2 + i, none⟩ = some (.int .i64 yv) := (hB.cell (p := ⟨b2, _, none⟩) hb2).trans e3
      have hi1 : (i : Int) < (hs.length : Int) := by omega
      have HINN := Lib.hid (fun W => l01In_any yv 1 999 W)
      have HN := HAA.out
      rw [drop_cons hy, riseB_cons] at HN
      have HY := Lib.hid hy
      clear e3 hy HAA
      cases c1 : inB yv 1 999
      ·have HR9 := Lib.hid (HRB.out (by rw [HN.1, c1]; rfl))
       rw [c1] at HINN
       clear HN c1 hprev
       go_wp2_with fail
       go_quiet ((go_at_call 43; refine (HINN.out _).mono ?_; exact fun _ _ h9 => ⟨h9.1, _, h9.2.symm⟩))
       go_wp2_with fail
       refine bodyPost_ret (v := .tuple #[.slice A1 l.length c1, .bool false]) ?_ rfl ?_
       ·simp [results, Tryz.results112, go_sem]
       ·rw [HR9.out]; exact ⟨A1, c1, rfl, (Row2.mono (lo := w.heap.size) (hi := w1.heap.size) (hi' := w1.heap.size) (by exact rowT) (by omega) (Nat.le_refl _)).1, by exact tacT⟩
      rw [c1] at HINN
      obtain ⟨yb1, yb2⟩ := inB_iff.1 c1
      by_cases c2 : yv = o
      ·have HR9 := Lib.hid (HOM.out (by rw [HN.2.1, c2]; simp))
       clear HN c1 hprev
       subst c2
       have c2' : (yv == yv) = true := by simp
       go_wp2_with fail
       go_quiet ((go_at_call 43; refine (HINN.out _).mono ?_; exact fun _ _ h9 => ⟨h9.1, _, h9.2.symm⟩))
       go_wp2_with fail
       refine bodyPost_ret (v := .tuple #[.slice A1 l.length c1, .bool false]) ?_ rfl ?_
       ·simp [results, Tryz.results112, go_sem]
       ·rw [HR9.out]; exact ⟨A1, c1, rfl, (Row2.mono (lo := w.heap.size) (hi := w1.heap.size) (hi' := w1.heap.size) (by exact rowT) (by omega) (Nat.le_refl _)).1, by exact tacT⟩
      have c2' : (yv == o) = false := by simp [c2]
      have c2n : ¬ yv = o := c2
      by_cases c3 : 0 < i ∧ yv ≤ pv
      ·have HR9 := Lib.hid (HRB.out (by rw [HN.1, c1, decide_eq_false (by omega : ¬ pv < yv)]; rfl))
       have hc1 := hprev c3.1
       have hip : (0 : Int) < (i : Int) := by omega
       have hip' : decide ((0 : Int) < (i : Int)) = true := by simpa using c3.1
       have hipn : 0 < i := c3.1
       have hipn' : decide (0 < i) = true := by simpa using c3.1
       have hkm : ((i : Int) - 1) = ((i - 1 : Nat) : Int) := by omega
       have hkm0 : (0 : Int) ≤ ((i - 1 : Nat) : Int) := by omega
       have hwr0 : IntKind.i64.wrap ((i : Int) - 1) = ((i - 1 : Nat) : Int) := by rw [hkm]; exact IntWalk.i64_in _ (by omega)
       have hwr1 : IntKind.i64.wrap ((i - 1 : Nat) : Int) = ((i - 1 : Nat) : Int) := by exact IntWalk.i64_in _ (by omega)
       have hkt : ((i : Int) - 1).toNat = i - 1 := by omega
       have hkm1 : ((i - 1 : Nat) : Int) < (hs.length : Int) := by omega
       have hle : yv ≤ pv := c3.2
       have hled : decide (yv ≤ pv) = true := by simpa using c3.2
       clear HN c1 hprev c3
       go_wp2_with fail
       go_quiet ((go_at_call 43; refine (HINN.out _).mono ?_; exact fun _ _ h9 => ⟨h9.1, _, h9.2.symm⟩))
       go_wp2_with fail
       refine bodyPost_ret (v := .tuple #[.slice A1 l.length c1, .bool false]) ?_ rfl ?_
       ·simp [results, Tryz.results112, go_sem]
       ·rw [HR9.out]; exact ⟨A1, c1, rfl, (Row2.mono (lo := w.heap.size) (hi := w1.heap.size) (hi' := w1.heap.size) (by exact rowT) (by omega) (Nat.le_refl _)).1, by exact tacT⟩
      have hpy : pv < yv := by
       rcases Nat.eq_zero_or_pos i with h9 | h9
       ·have := HPV.out.1 h9; omega
       ·omega
      have HNA : Hid (riseB 0 hs = riseB yv (hs.drop (i + 1)) ∧ (o ∈ hs ↔ o ∈ hs.drop (i + 1)) ∧ addAll q0 hs v1 v2 = addAll q (yv :: hs.drop (i + 1)) v1 v2) := ⟨by rw [HN.1, c1, decide_eq_true hpy]; rfl, by rw [HN.2.1]; simp [show ¬ o = yv from fun h9 => c2 h9.symm], HN.2.2⟩
      have HADO : Hid (∀ (k : Nat) (e : T3) (a1 a2 : Int) (ok : Bool), k = posA q yv → q[k]? = some e → e.x = yv → addF e.y e.z v1 v2 = (a1, a2, ok) → addSh q yv v1 v2 = if ok then some (q.set k ⟨yv, a1, a2⟩) else none) := fun k e a1 a2 ok hk he hx ha => by subst hk; exact addSh_old he hx ha
      obtain ⟨p, hp⟩ : ∃ p, p = posA q yv := ⟨_, rfl⟩
      have hpl : p ≤ q.length := by rw [hp]; exact posA_le q yv
      have HADN : Hid ((∀ e, q[p]? = some e → e.x ≠ yv) → addSh q yv v1 v2 = some (q.take p ++ ⟨yv, v1, v2⟩ :: q.drop p)) := fun h9 => by rw [hp] at h9 ⊢; exact addSh_new h9
      have HGO : Hid (∀ (k : Nat) (e : T3), k ≤ p → q[k]? = some e → (e.x < yv → k + 1 ≤ p) ∧ (¬ e.x < yv → k = p)) := fun k e hk he => by rw [hp] at hk ⊢; exact posA_go hk he
      have HEN2 : Hid (∀ k, k ≤ p → ¬ k < q.length → k = p) := fun k hk he => by rw [hp] at hk ⊢; exact posA_end hk he
      have HP := Lib.hid hp
      have hdi : (∃ b : Bool, decide ((0 : Int) < (i : Int)) = b) := ⟨_, rfl⟩
      clear hp HN c1 c2
      rcases Nat.eq_zero_or_pos i with hz | hz
      ·have hip : ¬ (0 : Int) < (i : Int) := by omega
       have hip' : decide ((0 : Int) < (i : Int)) = false := by simp only [decide_eq_false_iff_not]; exact hip
       have hipn' : decide (0 < i) = false := by simp only [decide_eq_false_iff_not]; omega
       have HZ := Lib.hid hz
       clear hz hprev c3
       go_wp2_with fail
       go_quiet ((go_at_call 43; refine (HINN.out _).mono ?_; exact fun _ _ h9 => ⟨h9.1, _, h9.2.symm⟩))
       go_wp2_with fail
       first | refine name_world ?_ | refine name_wp ?_
       intro W6 hW6
       have hz_W6 : wr.heap.size ≤ W6.heap.size := by rw [hW6]; first | exact Nat.le_refl _ | (simp; done)
       replace hB : Below w.heap.size w W6 := by rw [hW6]; repeat' (first | (with_reducible exact Below.refl _ _) | (with_reducible assumption) | (with_reducible refine Below.alloc ?_ ?_ _) | (with_reducible refine Below.setCell ?_ ?_ _) | (with_reducible refine Below.drew ?_) | (with_reducible refine below_drewN ?_ _) | (refine Below.trans ?_ (Below.mono (by with_reducible assumption) ?_)) | omega | (simp; done) | (simp; omega))
       replace kb_m : Blk W6 (w3.heap.size + 1) 67 #[.int .i64 v1, .int .i64 v2] := by rw [hW6]; repeat' (first | (with_reducible assumption) | (with_reducible refine Blk.drew ?_) | (with_reducible refine Blk.drewN ?_ _) | (with_reducible refine Blk.new' _ _ _ _ ?_; (first | rfl | omega | (simp; done))) | (with_reducible exact Blk.new _ _ _) | (with_reducible refine Blk.alloc ?_ _) | (with_reducible apply Blk.set8) | (with_reducible apply Blk.set7of8) | (with_reducible apply Blk.setlast8) | (with_reducible apply Blk.set7) | (with_reducible apply Blk.set2) | (with_reducible apply Blk.set3) | (with_reducible refine Blk.far ?_ ?_ _) | (simp; done) | (simp; omega) | (dsimp only; omega))
       replace hr_s : Row2 W6 w.heap.size w1.heap.size 69 3 A1 l.length c1 (t3s l) := by rw [hW6]; repeat' (first | (with_reducible assumption) | (with_reducible refine Row2.far ?_ ?_ _) | (with_reducible refine Row2.alloc ?_ _) | (with_reducible refine Row2.drewN ?_ _) | (with_reducible refine Row2.drew ?_) | (left; dsimp only; omega) | (right; dsimp only; omega))
       have HO_W6 : Hid (W6.ownsRow w3.heap.size 69 3 (.slice (some ⟨g, 0, none⟩) q.length c') q.length (t3s q)) := by rw [hW6]; exact HO.out
       have f3_W6 : W6.cell? ⟨b2, o2 + i, none⟩ = some (.int .i64 yv) := by rw [hW6]; exact f3
       clear hW6 HO f3
       have HO := HO_W6
       have f3 := f3_W6
       clear HO_W6 f3_W6
       have hgr : g < W6.heap.size := (HO.out.lt g rfl).2
       have hgm : g ≠ w3.heap.size + 1 := own_ne_blk HO.out kb_m (by decide)
       have kc6_m := kb_m.cells
       have hl6_m := kb_m.lt
       have hrq : RdT W6 W6.heap.size (some ⟨g, 0, none⟩) c' q := Rd.of_own HO.out
       have hqlc : (q.length : Int) ≤ (c' : Int) := by have := hrq.2.1; omega
       have hc'63 : c' ≤ 9223372036854775807 := hrq.2.2.1
       go_loopw [16] (fun av wz => ∃ (k2 n9 : Nat), k2 ≤ p ∧ av = .int .i64 k2 ∧ wz = W6.drewN n9) (fun av _ => q.length + 1 - (intOf av).toNat)
       case atStart => exact ⟨0, 0, Nat.zero_le _, rfl, rfl⟩
       case round =>
        obtain ⟨k2, n9, hk2, rfl, rfl⟩ := hrel
        have hk20 : (0 : Int) ≤ (k2 : Int) := by omega
        have f3d : (W6.drewN n9).cell? ⟨b2, o2 + i, none⟩ = some (.int .i64 yv) := f3
        by_cases hlt3 : k2 < q.length
        ·obtain ⟨bb9, oo9, e, hA9, hbb9, he, e0, e1, e2⟩ := hrq.at_ hlt3
         simp only [Option.some.injEq, Addr.mk.injEq, and_true] at hA9
         obtain ⟨rfl, rfl⟩ := hA9
         rw [Nat.zero_add] at e0 e1 e2
         have e0d : (W6.drewN n9).cell? ⟨g, k2 * 3, none⟩ = some (.int .i64 e.x) := e0
         have hk21 : (k2 : Int) < (q.length : Int) := by omega
         have hk22 : decide ((k2 : Int) < (q.length : Int)) = true := by simpa using hk21
         obtain ⟨g1, g2⟩ := HGO.out k2 e hk2 he
         by_cases hxo : e.x < yv
         ·have hxd : decide (e.x < yv) = true := by simpa using hxo
          have g3 := g1 (by omega)
          clear g1 g2 he
          go_wp2_with fail
          go_quiet (fail)
          go_wp2_with fail
          go_roundw
          case rel => exact ⟨k2 + 1, n9 + nq, g3, by go_num, (by first | rfl | exact World.drewN_drewN _ _ _)⟩
          case measure => simp [intOf]; omega
         ·have hxd : decide (e.x < yv) = false := by simpa using hxo
          obtain rfl := g2 (by omega)
          clear g1 g2
          by_cases hxt : e.x = yv
          ·have hxt' : (e.x == yv) = true := by simp [hxt]
           obtain ⟨a1, a2, ok, ha⟩ : ∃ a1 a2 ok, addF e.y e.z v1 v2 = (a1, a2, ok) := ⟨_, _, _, rfl⟩
           have HAF : Hid (∀ W, Calls Tryz.prog 140 #[.agg #[.int .i64 e.y, .int .i64 e.z], .agg #[.int .i64 v1, .int .i64 v2]] W fun e w' => e = frRet (a1, a2, ok) ∧ Below W.heap.size W w') := fun W => by rw [← ha]; exact AddFractionsS_any _ _ _ _ W
           have HAO := Lib.hid (HADO.out k2 e a1 a2 ok HP.out he hxt ha)
           have HEX := Lib.hid (And.intro he hxt)
           clear ha he
           go_wp2_with fail
           go_quiet (fail)
           go_wp2_with fail
           go_quiet (fail)
           go_wp2_with fail
           first | refine name_world ?_ | refine name_wp ?_
           intro Wm hWm
           have hz_Wm : W6.heap.size ≤ Wm.heap.size := by rw [hWm]; first | exact Nat.le_refl _ | (simp; done)
           replace hB : Below w.heap.size w Wm := by rw [hWm]; repeat' (first | (with_reducible exact Below.refl _ _) | (with_reducible assumption) | (with_reducible refine Below.alloc ?_ ?_ _) | (with_reducible refine Below.setCell ?_ ?_ _) | (with_reducible refine Below.drew ?_) | (with_reducible refine below_drewN ?_ _) | (refine Below.trans ?_ (Below.mono (by with_reducible assumption) ?_)) | omega | (simp; done) | (simp; omega))
           replace kb_m : Blk Wm (w3.heap.size + 1) 67 #[.int .i64 v1, .int .i64 v2] := by rw [hWm]; repeat' (first | (with_reducible assumption) | (with_reducible refine Blk.drew ?_) | (with_reducible refine Blk.drewN ?_ _) | (with_reducible refine Blk.new' _ _ _ _ ?_; (first | rfl | omega | (simp; done))) | (with_reducible exact Blk.new _ _ _) | (with_reducible refine Blk.alloc ?_ _) | (with_reducible apply Blk.set8) | (with_reducible apply Blk.set7of8) | (with_reducible apply Blk.setlast8) | (with_reducible apply Blk.set7) | (with_reducible apply Blk.set2) | (with_reducible apply Blk.set3) | (with_reducible refine Blk.far ?_ ?_ _) | (simp; done) | (simp; omega) | (dsimp only; omega))
           replace hr_s : Row2 Wm w.heap.size w1.heap.size 69 3 A1 l.length c1 (t3s l) := by rw [hWm]; repeat' (first | (with_reducible assumption) | (with_reducible refine Row2.far ?_ ?_ _) | (with_reducible refine Row2.alloc ?_ _) | (with_reducible refine Row2.drewN ?_ _) | (with_reducible refine Row2.drew ?_) | (left; dsimp only; omega) | (right; dsimp only; omega))
           have HO_Wm : Hid (Wm.ownsRow w3.heap.size 69 3 (.slice (some ⟨g, 0, none⟩) q.length c') q.length (t3s q)) := by rw [hWm]; exact HO.out
           have f3_Wm : Wm.cell? ⟨b2, o2 + i, none⟩ = some (.int .i64 yv) := by rw [hWm]; exact f3
           clear hWm HO f3
           have HO := HO_Wm
           have f3 := f3_Wm
           clear HO_Wm f3_Wm
           have hr_o := row_at HO.out
           have e1m : Wm.cell? ⟨g, k2 * 3 + 1, none⟩ = some (.int .i64 e.y) := by have := (own_setS hr_o.1 HEX.out.1); obtain ⟨g7, h7, -, -, -, -, h8, -, -⟩ := this; obtain rfl : g = g7 := (by simpa using h7); exact h8
           have e2m : Wm.cell? ⟨g, k2 * 3 + 2, none⟩ = some (.int .i64 e.z) := by have := (own_setS hr_o.1 HEX.out.1); obtain ⟨g7, h7, -, -, -, -, -, h8, -⟩ := this; obtain rfl : g = g7 := (by simpa using h7); exact h8
           have hgrm : g < Wm.heap.size := by omega
           have kcm_m := kb_m.cells
           have hlm := kb_m.lt
           go_region_held3 (fun w' => w'.cell? ⟨w3.heap.size + 1, 0, none⟩ = some (.int .i64 v1) ∧ w'.cell? ⟨w3.heap.size + 1, 1, none⟩ = some (.int .i64 v2) ∧ w'.cell? ⟨g, k2 * 3 + 1, none⟩ = some (.int .i64 e.y) ∧ w'.cell? ⟨g, k2 * 3 + 2, none⟩ = some (.int .i64 e.z)) (first | (with_reducible exact ⟨kcm_m 0, kcm_m 1, e1m, e2m⟩) | (refine ⟨?_, ?_, ?_, ?_⟩ <;> simp [go_sem, kcm_m 0, kcm_m 1, e1m, e2m, hgrm, hlm]; done) | (with_reducible exact ⟨y7_0, y7_1, y7_2, y7_3⟩) | (refine ⟨?_, ?_, ?_, ?_⟩ <;> simp [go_sem, y7_0, y7_1, y7_2, y7_3, hgrm, hlm, n7_0, l7_0, n7_1, l7_1, n7_2, l7_2, n7_3, l7_3]; done) | exact ⟨kcm_m 0, kcm_m 1, e1m, e2m⟩)
            (((go_at_call 140; refine (HAF.out _).mono ?_; rintro e w7 ⟨rfl, hb7⟩; unfold frRet; have hB7 : Below w.heap.size w w7 := (by exact tacT); have hz7 : Wm.heap.size ≤ w7.heap.size := (by have hzz := Below.size hb7; first | omega | (simp at hzz; omega)); have l7_0 : w3.heap.size + 1 < w7.heap.size := (by omega); have n7_0 := Nat.ne_of_lt l7_0; have y7_0 : w7.cell? ⟨w3.heap.size + 1, 0, none⟩ = some (.int .i64 v1) := (Below.cell hb7 (p := ⟨w3.heap.size + 1, 0, none⟩) (by first | (simp; done) | (simp; omega) | omega)).trans (by first | exact kcm_m 0 | (simp [go_sem, kcm_m 0, hgrm, hlm]; done)); have l7_1 : w3.heap.size + 1 < w7.heap.size := (by omega); have n7_1 := Nat.ne_of_lt l7_1; have y7_1 : w7.cell? ⟨w3.heap.size + 1, 1, none⟩ = some (.int .i64 v2) := (Below.cell hb7 (p := ⟨w3.heap.size + 1, 1, none⟩) (by first | (simp; done) | (simp; omega) | omega)).trans (by first | exact kcm_m 1 | (simp [go_sem, kcm_m 1, hgrm, hlm]; done)); have l7_2 : g < w7.heap.size := (by omega); have n7_2 := Nat.ne_of_lt l7_2; have y7_2 : w7.cell? ⟨g, k2 * 3 + 1, none⟩ = some (.int .i64 e.y) := (Below.cell hb7 (p := ⟨g, k2 * 3 + 1, none⟩) (by first | (simp; done) | (simp; omega) | omega)).trans (by first | exact e1m | (simp [go_sem, e1m, hgrm, hlm]; done)); have l7_3 : g < w7.heap.size := (by omega); have n7_3 := Nat.ne_of_lt l7_3; have y7_3 : w7.cell? ⟨g, k2 * 3 + 2, none⟩ = some (.int .i64 e.z) := (Below.cell hb7 (p := ⟨g, k2 * 3 + 2, none⟩) (by first | (simp; done) | (simp; omega) | omega)).trans (by first | exact e2m | (simp [go_sem, e2m, hgrm, hlm]; done)); have kb7_m : Blk w7 (w3.heap.size + 1) 67 #[.int .i64 v1, .int .i64 v2] := Blk.below (by exact blkT) hb7 (by first | (simp; done) | (simp; omega) | omega); have kc7_m := kb7_m.cells; have kf7_m := kb7_m.frozens; have hl7_m := kb7_m.lt; have hn7_m := Nat.ne_of_lt hl7_m; try (have kb9 : Blk w7 Wm.heap.size 67 #[.int .i64 0, .int .i64 0] := Blk.below (by exact blkT) hb7 (by exact sT); have kc9 := kb9.cells; have kf9 := kb9.frozens; have hl9 := kb9.lt; have hn9 := Nat.ne_of_lt hl9; have m0 : w3.heap.size + 1 ≠ Wm.heap.size := (by omega); have k0 : Wm.heap.size ≠ w3.heap.size + 1 := (by omega); have m1 : g ≠ Wm.heap.size := (by omega); have k1 : Wm.heap.size ≠ g := (by omega)))))
           all_goals
            have hr_s7 : Row2 w7 w.heap.size w1.heap.size 69 3 A1 l.length c1 (t3s l) := Row2.below (by exact rowT) hb7 (by exact oT)
            have hr_o7 : Row2 w7 g (g + 1) 69 3 (some ⟨g, 0, none⟩) q.length c' (t3s q) := Row2.below (by exact rowT) hb7 (by exact oT)
            obtain ⟨g9, hg9, -, -, hfz7, -, -, -, -⟩ := own_setS hr_o7.1 HEX.out.1
            obtain rfl : g = g9 := by simpa using hg9
            have hg9w : g < w7.heap.size := by omega
            clear hb7 hg9 hr_s hr_o
            cases ok
            ·have HR9 : Hid (R = (l, false)) := HNN.out (by rw [HNA.out.2.2]; exact addAll_no _ HAO.out)
             go_wp2_with fail
             refine bodyPost_ret (v := .tuple #[.slice A1 l.length c1, .bool false]) ?_ rfl ?_
             ·simp [results, Tryz.results112, go_sem]
             ·rw [HR9.out]; exact ⟨A1, c1, rfl, (Row2.mono (lo := w.heap.size) (hi := w1.heap.size) (hi' := w1.heap.size) (by exact rowT) (by omega) (Nat.le_refl _)).1, by exact tacT⟩
            ·have HNX : Hid (addAll q0 hs v1 v2 = addAll (q.set k2 ⟨yv, a1, a2⟩) (hs.drop (i + 1)) v1 v2) := by show _ = _; rw [HNA.out.2.2]; exact addAll_yes _ HAO.out
             go_wp2_with fail
             go_roundw
             case rel =>
              refine ⟨i + 1, g, c', q.set k2 ⟨yv, a1, a2⟩, yv, by omega, by rw [List.length_set], by go_num, ⟨HNA.out.1, HNA.out.2.1, HNX.out⟩, ⟨fun h9 => by omega, fun _ => HY.out⟩, by rw [List.length_set]; omega, ?_, by exact blkT, by exact rowT, by exact tacT⟩
              rw [List.length_set, ← HEX.out.2]
              first
               |exact own_mono (base' := w3.heap.size) (own_store2 (base := g) (hi := g + 1) (by (repeat' (first | (with_reducible assumption) | (with_reducible refine Row2.far ?_ ?_ _) | (with_reducible refine Row2.alloc ?_ _) | (with_reducible refine Row2.drewN ?_ _) | (with_reducible refine Row2.drew ?_) | (left; dsimp only; omega) | (right; dsimp only; omega))); all_goals (dsimp only; omega)) HEX.out.1 a1 a2).1 (by omega)
               |exact World.ownsRow.alloc (own_mono (base' := w3.heap.size) (own_store2 (base := g) (hi := g + 1) (by (repeat' (first | (with_reducible assumption) | (with_reducible refine Row2.far ?_ ?_ _) | (with_reducible refine Row2.alloc ?_ _) | (with_reducible refine Row2.drewN ?_ _) | (with_reducible refine Row2.drew ?_) | (left; dsimp only; omega) | (right; dsimp only; omega))); all_goals (dsimp only; omega)) HEX.out.1 a1 a2).1 (by omega)) _
             case measure => simp [intOf]; omega
          ·have hxt' : (e.x == yv) = false := by simp [hxt]
           have hne : ∀ e', q[k2]? = some e' → e'.x ≠ yv := fun e' h9 => by rw [he] at h9; rw [← Option.some.inj h9]; exact hxt
           clear he
           go_wp2_with fail
           go_quiet (fail)
           go_wp2_with fail
           go_quiet (fail)
           go_wp2_with fail
           first | refine name_world ?_ | refine name_wp ?_
           intro Wm hWm
           have hz_Wm : W6.heap.size ≤ Wm.heap.size := by rw [hWm]; first | exact Nat.le_refl _ | (simp; done)
           replace hB : Below w.heap.size w Wm := by rw [hWm]; repeat' (first | (with_reducible exact Below.refl _ _) | (with_reducible assumption) | (with_reducible refine Below.alloc ?_ ?_ _) | (with_reducible refine Below.setCell ?_ ?_ _) | (with_reducible refine Below.drew ?_) | (with_reducible refine below_drewN ?_ _) | (refine Below.trans ?_ (Below.mono (by with_reducible assumption) ?_)) | omega | (simp; done) | (simp; omega))
           replace kb_m : Blk Wm (w3.heap.size + 1) 67 #[.int .i64 v1, .int .i64 v2] := by rw [hWm]; repeat' (first | (with_reducible assumption) | (with_reducible refine Blk.drew ?_) | (with_reducible refine Blk.drewN ?_ _) | (with_reducible refine Blk.new' _ _ _ _ ?_; (first | rfl | omega | (simp; done))) | (with_reducible exact Blk.new _ _ _) | (with_reducible refine Blk.alloc ?_ _) | (with_reducible apply Blk.set8) | (with_reducible apply Blk.set7of8) | (with_reducible apply Blk.setlast8) | (with_reducible apply Blk.set7) | (with_reducible apply Blk.set2) | (with_reducible apply Blk.set3) | (with_reducible refine Blk.far ?_ ?_ _) | (simp; done) | (simp; omega) | (dsimp only; omega))
           replace hr_s : Row2 Wm w.heap.size w1.heap.size 69 3 A1 l.length c1 (t3s l) := by rw [hWm]; repeat' (first | (with_reducible assumption) | (with_reducible refine Row2.far ?_ ?_ _) | (with_reducible refine Row2.alloc ?_ _) | (with_reducible refine Row2.drewN ?_ _) | (with_reducible refine Row2.drew ?_) | (left; dsimp only; omega) | (right; dsimp only; omega))
           have HO_Wm : Hid (Wm.ownsRow w3.heap.size 69 3 (.slice (some ⟨g, 0, none⟩) q.length c') q.length (t3s q)) := by rw [hWm]; exact HO.out
           have f3_Wm : Wm.cell? ⟨b2, o2 + i, none⟩ = some (.int .i64 yv) := by rw [hWm]; exact f3
           clear hWm HO f3
           have HO := HO_Wm
           have f3 := f3_Wm
           clear HO_Wm f3_Wm
           have hkc : (k2 : Int) ≤ (c' : Int) := by omega
           have hkq : (k2 : Int) ≤ (q.length : Int) := by omega
           have HNX : Hid (addAll q0 hs v1 v2 = addAll (q.take k2 ++ ⟨yv, v1, v2⟩ :: q.drop k2) (hs.drop (i + 1)) v1 v2) := by show _ = _; rw [HNA.out.2.2]; exact addAll_yes _ (HADN.out hne)
           have hrq' : RdT Wm Wm.heap.size (some ⟨g, 0, none⟩) c' q := Rd.of_own HO.out
           have HTR : Rd Wm Wm.heap.size 3 (some ⟨g, 0, none⟩) k2 c' (t3s (q.take k2)) := by rw [t3s_take]; exact Rd.take hrq' (by omega)
           have HDR : Rd Wm Wm.heap.size 3 (if c' = k2 then some ⟨g, 0, none⟩ else some ⟨g, k2 * 3, none⟩) (q.length - k2) (c' - k2) (t3s (q.drop k2)) := by rw [t3s_drop]; exact Rd.drop hrq' (by omega)
           have hlb2 : b2 < Wm.heap.size := by omega
           clear hne hrq'
           go_wp2_with fail
           go_region_held3 (fun w' => w'.cell? ⟨w3.heap.size + 1, 0, none⟩ = some (.int .i64 v1) ∧ w'.cell? ⟨w3.heap.size + 1, 1, none⟩ = some (.int .i64 v2) ∧ w'.cell? ⟨b2, o2 + i, none⟩ = some (.int .i64 yv)) (first | (refine ⟨(Below.cell (B := Wm.heap.size) (w := Wm) (p := ⟨w3.heap.size + 1, 0, none⟩) ?_ (by show w3.heap.size + 1 < Wm.heap.size; omega)).trans (kb_m.cell 0), (Below.cell (B := Wm.heap.size) (w := Wm) (p := ⟨w3.heap.size + 1, 1, none⟩) ?_ (by show w3.heap.size + 1 < Wm.heap.size; omega)).trans (kb_m.cell 1), (Below.cell (B := Wm.heap.size) (w := Wm) (p := ⟨b2, o2 + i, none⟩) ?_ (by show b2 < Wm.heap.size; omega)).trans f3⟩ <;> (repeat' (first | (with_reducible exact Below.refl _ _) | (with_reducible assumption) | (with_reducible refine Below.alloc ?_ ?_ _) | (with_reducible refine Below.setCell ?_ ?_ _) | (with_reducible refine Below.drew ?_) | (with_reducible refine below_drewN ?_ _) | (refine Below.trans ?_ (Below.mono (by with_reducible assumption) ?_)) | omega | (simp; done) | (simp; omega)))))
            ((first | (refine step_appB rfl _ _ 33 rfl Wm.heap.size 69 (.agg #[.int .i64 0, .int .i64 0, .int .i64 0]) 3 24 Tryz.underlying33 infoRight rfl (Nat.le_of_ble_eq_true rfl) (.slice Ab (k2 + 1) cb) (k2 + 1) (t3s (q.take k2 ++ [⟨yv, v1, v2⟩])) rfl ?_ _ _ (q.length - k2) (c' - k2) (t3s (q.drop k2)) rfl (Rd.keep (B := Wm.heap.size) HDR (fun j hj => Below.cell (B := Wm.heap.size) ?_ hj)) (t3s_one _) ?_ ?_ ?_ ?_; (focus ((repeat' (first | (with_reducible assumption) | (with_reducible refine World.ownsRow.alloc ?_ _) | (with_reducible refine World.ownsRow.drew ?_))); done)); (focus (exact tacT)); omega; omega; (focus (first | omega | (simp; done) | (simp; omega))); intro Ac cc wc hoc hgc kc9; rw [← t3s_append, List.append_assoc, List.singleton_append] at hoc; have hzc := hgc.size; have hBc : Below Wm.heap.size Wm wc := Below.grown (by exact tacT) hgc (by exact ooT) (fun j hj => (hob.lt j hj).1)) | (refine step_appB rfl _ _ 33 rfl Wm.heap.size 69 (.agg #[.int .i64 0, .int .i64 0, .int .i64 0]) 3 24 Tryz.underlying33 infoRight rfl (Nat.le_of_ble_eq_true rfl) (.slice Aa k2 ca) k2 (t3s (q.take k2)) rfl ?_ _ _ 1 1 (t3s [⟨yv, v1, v2⟩]) rfl (rd_blk (t := 69) ?_) (t3s_one _) ?_ ?_ ?_ ?_; (focus ((repeat' (first | (with_reducible assumption) | (with_reducible refine World.ownsRow.alloc ?_ _) | (with_reducible refine World.ownsRow.drew ?_))); done)); (focus ((repeat' (first | (with_reducible assumption) | (with_reducible refine ka _ _ _ ?_ ?_) | (with_reducible refine Blk.drew ?_) | (with_reducible refine Blk.new' _ _ _ _ ?_; (first | rfl | omega | (simp; done))) | (with_reducible refine Blk.alloc ?_ _) | (intro h9; have h8 := Option.some.inj h9; first | omega | (simp at h8; done) | (simp at h8; omega)) | omega)); done)); omega; omega; (focus (first | omega | (simp; done) | (simp; omega))); intro Ab cb wb hob hgb kb; rw [← t3s_append] at hob; have hzb := hgb.size; have hBb : Below Wm.heap.size Wm wb := Below.grown (by exact tacT) hgb (by exact ooT) (fun j hj => (hoa.lt j hj).1); have hzb' := hBb.size) | (refine step_appE rfl _ _ 33 rfl Wm.heap.size 69 (.agg #[.int .i64 0, .int .i64 0, .int .i64 0]) 3 24 Tryz.underlying33 infoRight rfl (Nat.le_of_ble_eq_true rfl) _ rfl ?_ Wm.heap.size (some ⟨g, 0, none⟩) k2 c' (t3s (q.take k2)) rfl (Rd.keep (B := Wm.heap.size) HTR (fun j hj => Below.cell (B := Wm.heap.size) ?_ hj)) (t3s_one _) ?_ ?_ ?_ ?_; (focus ((repeat' (first | (refine ownEmpty' _ _ _ _ _ ?_ ?_; (focus (simp; done)); (focus (first | omega | (simp; done) | (simp; omega)))) | (with_reducible refine World.ownsRow.alloc ?_ _) | (with_reducible refine World.ownsRow.drew ?_))); done)); (focus (exact tacT)); omega; omega; (focus (first | omega | (simp; done) | (simp; omega))); intro Aa ca wa hoa hga; have ka := keep_row hga; have hza := hga.size; have hBa : Below Wm.heap.size Wm wa := Below.grown (by exact tacT) hga (by exact ooT) (fun j hj => by have h9 := Option.some.inj hj; first | omega | (simp at h9; omega)); have hza' := hBa.size)))
           all_goals
            have hlen9 : (q.take k2 ++ ⟨yv, v1, v2⟩ :: q.drop k2).length = k2 + 1 + (q.length - k2) := by rw [List.length_append, List.length_cons, List.length_take, List.length_drop]; omega
            replace hr_s := Row2.below hr_s hBc (by omega)
            replace kb_m := Blk.below kb_m hBc (by omega)
            replace hB := hB.trans (hBc.mono hB.size)
            have hzz := hBc.size
            obtain ⟨g9, cur9, rfl, -⟩ := own_open hoc (.inl (by omega))
            have HOC := Lib.hid (own_mono (base' := w3.heap.size) hoc (by omega))
            have HL9 := Lib.hid hlen9
            clear hoc hlen9 hBc
            go_wp2_with fail
            all_goals
             go_roundw
             case rel => exact ⟨i + 1, g9, cc, _, yv, by omega, by rw [HL9.out], by go_num, ⟨HNA.out.1, HNA.out.2.1, HNX.out⟩, ⟨fun h9 => by omega, fun _ => HY.out⟩, by rw [HL9.out]; omega, by rw [HL9.out]; exact HOC.out, kb_m, hr_s, hB⟩
             case measure => simp [intOf]; omega
        ·have hk21 : ¬ (k2 : Int) < (q.length : Int) := by omega
         have hk22 : decide ((k2 : Int) < (q.length : Int)) = false := by simpa using hk21
         obtain rfl := HEN2.out k2 hk2 hlt3
         have hne : ∀ e', q[k2]? = some e' → e'.x ≠ yv := fun e' h9 => by have := (List.getElem?_eq_some_iff.1 h9).1; omega
         go_wp2_with fail
         go_quiet (fail)
         go_wp2_with fail
         go_quiet (fail)
         go_wp2_with fail
         first | refine name_world ?_ | refine name_wp ?_
         intro Wm hWm
         have hz_Wm : W6.heap.size ≤ Wm.heap.size := by rw [hWm]; first | exact Nat.le_refl _ | (simp; done)
         replace hB : Below w.heap.size w Wm := by rw [hWm]; repeat' (first | (with_reducible exact Below.refl _ _) | (with_reducible assumption) | (with_reducible refine Below.alloc ?_ ?_ _) | (with_reducible refine Below.setCell ?_ ?_ _) | (with_reducible refine Below.drew ?_) | (with_reducible refine below_drewN ?_ _) | (refine Below.trans ?_ (Below.mono (by with_reducible assumption) ?_)) | omega | (simp; done) | (simp; omega))
         replace kb_m : Blk Wm (w3.heap.size + 1) 67 #[.int .i64 v1, .int .i64 v2] := by rw [hWm]; repeat' (first | (with_reducible assumption) | (with_reducible refine Blk.drew ?_) | (with_reducible refine Blk.drewN ?_ _) | (with_reducible refine Blk.new' _ _ _ _ ?_; (first | rfl | omega | (simp; done))) | (with_reducible exact Blk.new _ _ _) | (with_reducible refine Blk.alloc ?_ _) | (with_reducible apply Blk.set8) | (with_reducible apply Blk.set7of8) | (with_reducible apply Blk.setlast8) | (with_reducible apply Blk.set7) | (with_reducible apply Blk.set2) | (with_reducible apply Blk.set3) | (with_reducible refine Blk.far ?_ ?_ _) | (simp; done) | (simp; omega) | (dsimp only; omega))
         replace hr_s : Row2 Wm w.heap.size w1.heap.size 69 3 A1 l.length c1 (t3s l) := by rw [hWm]; repeat' (first | (with_reducible assumption) | (with_reducible refine Row2.far ?_ ?_ _) | (with_reducible refine Row2.alloc ?_ _) | (with_reducible refine Row2.drewN ?_ _) | (with_reducible refine Row2.drew ?_) | (left; dsimp only; omega) | (right; dsimp only; omega))
         have HO_Wm : Hid (Wm.ownsRow w3.heap.size 69 3 (.slice (some ⟨g, 0, none⟩) q.length c') q.length (t3s q)) := by rw [hWm]; exact HO.out
         have f3_Wm : Wm.cell? ⟨b2, o2 + i, none⟩ = some (.int .i64 yv) := by rw [hWm]; exact f3
         clear hWm HO f3
         have HO := HO_Wm
         have f3 := f3_Wm
         clear HO_Wm f3_Wm
         have hkc : (k2 : Int) ≤ (c' : Int) := by omega
         have hkq : (k2 : Int) ≤ (q.length : Int) := by omega
         have HNX : Hid (addAll q0 hs v1 v2 = addAll (q.take k2 ++ ⟨yv, v1, v2⟩ :: q.drop k2) (hs.drop (i + 1)) v1 v2) := by show _ = _; rw [HNA.out.2.2]; exact addAll_yes _ (HADN.out hne)
         have hrq' : RdT Wm Wm.heap.size (some ⟨g, 0, none⟩) c' q := Rd.of_own HO.out
         have HTR : Rd Wm Wm.heap.size 3 (some ⟨g, 0, none⟩) k2 c' (t3s (q.take k2)) := by rw [t3s_take]; exact Rd.take hrq' (by omega)
         have HDR : Rd Wm Wm.heap.size 3 (if c' = k2 then some ⟨g, 0, none⟩ else some ⟨g, k2 * 3, none⟩) (q.length - k2) (c' - k2) (t3s (q.drop k2)) := by rw [t3s_drop]; exact Rd.drop hrq' (by omega)
         have hlb2 : b2 < Wm.heap.size := by omega
         clear hne hrq'
         go_wp2_with fail
         go_region_held3 (fun w' => w'.cell? ⟨w3.heap.size + 1, 0, none⟩ = some (.int .i64 v1) ∧ w'.cell? ⟨w3.heap.size + 1, 1, none⟩ = some (.int .i64 v2) ∧ w'.cell? ⟨b2, o2 + i, none⟩ = some (.int .i64 yv)) (first | (refine ⟨(Below.cell (B := Wm.heap.size) (w := Wm) (p := ⟨w3.heap.size + 1, 0, none⟩) ?_ (by show w3.heap.size + 1 < Wm.heap.size; omega)).trans (kb_m.cell 0), (Below.cell (B := Wm.heap.size) (w := Wm) (p := ⟨w3.heap.size + 1, 1, none⟩) ?_ (by show w3.heap.size + 1 < Wm.heap.size; omega)).trans (kb_m.cell 1), (Below.cell (B := Wm.heap.size) (w := Wm) (p := ⟨b2, o2 + i, none⟩) ?_ (by show b2 < Wm.heap.size; omega)).trans f3⟩ <;> (repeat' (first | (with_reducible exact Below.refl _ _) | (with_reducible assumption) | (with_reducible refine Below.alloc ?_ ?_ _) | (with_reducible refine Below.setCell ?_ ?_ _) | (with_reducible refine Below.drew ?_) | (with_reducible refine below_drewN ?_ _) | (refine Below.trans ?_ (Below.mono (by with_reducible assumption) ?_)) | omega | (simp; done) | (simp; omega)))))
          ((first | (refine step_appB rfl _ _ 33 rfl Wm.heap.size 69 (.agg #[.int .i64 0, .int .i64 0, .int .i64 0]) 3 24 Tryz.underlying33 infoRight rfl (Nat.le_of_ble_eq_true rfl) (.slice Ab (k2 + 1) cb) (k2 + 1) (t3s (q.take k2 ++ [⟨yv, v1, v2⟩])) rfl ?_ _ _ (q.length - k2) (c' - k2) (t3s (q.drop k2)) rfl (Rd.keep (B := Wm.heap.size) HDR (fun j hj => Below.cell (B := Wm.heap.size) ?_ hj)) (t3s_one _) ?_ ?_ ?_ ?_; (focus ((repeat' (first | (with_reducible assumption) | (with_reducible refine World.ownsRow.alloc ?_ _) | (with_reducible refine World.ownsRow.drew ?_))); done)); (focus (exact tacT)); omega; omega; (focus (first | omega | (simp; done) | (simp; omega))); intro Ac cc wc hoc hgc kc9; rw [← t3s_append, List.append_assoc, List.singleton_append] at hoc; have hzc := hgc.size; have hBc : Below Wm.heap.size Wm wc := Below.grown (by exact tacT) hgc (by exact ooT) (fun j hj => (hob.lt j hj).1)) | (refine step_appB rfl _ _ 33 rfl Wm.heap.size 69 (.agg #[.int .i64 0, .int .i64 0, .int .i64 0]) 3 24 Tryz.underlying33 infoRight rfl (Nat.le_of_ble_eq_true rfl) (.slice Aa k2 ca) k2 (t3s (q.take k2)) rfl ?_ _ _ 1 1 (t3s [⟨yv, v1, v2⟩]) rfl (rd_blk (t := 69) ?_) (t3s_one _) ?_ ?_ ?_ ?_; (focus ((repeat' (first | (with_reducible assumption) | (with_reducible refine World.ownsRow.alloc ?_ _) | (with_reducible refine World.ownsRow.drew ?_))); done)); (focus ((repeat' (first | (with_reducible assumption) | (with_reducible refine ka _ _ _ ?_ ?_) | (with_reducible refine Blk.drew ?_) | (with_reducible refine Blk.new' _ _ _ _ ?_; (first | rfl | omega | (simp; done))) | (with_reducible refine Blk.alloc ?_ _) | (intro h9; have h8 := Option.some.inj h9; first | omega | (simp at h8; done) | (simp at h8; omega)) | omega)); done)); omega; omega; (focus (first | omega | (simp; done) | (simp; omega))); intro Ab cb wb hob hgb kb; rw [← t3s_append] at hob; have hzb := hgb.size; have hBb : Below Wm.heap.size Wm wb := Below.grown (by exact tacT) hgb (by exact ooT) (fun j hj => (hoa.lt j hj).1); have hzb' := hBb.size) | (refine step_appE rfl _ _ 33 rfl Wm.heap.size 69 (.agg #[.int .i64 0, .int .i64 0, .int .i64 0]) 3 24 Tryz.underlying33 infoRight rfl (Nat.le_of_ble_eq_true rfl) _ rfl ?_ Wm.heap.size (some ⟨g, 0, none⟩) k2 c' (t3s (q.take k2)) rfl (Rd.keep (B := Wm.heap.size) HTR (fun j hj => Below.cell (B := Wm.heap.size) ?_ hj)) (t3s_one _) ?_ ?_ ?_ ?_; (focus ((repeat' (first | (refine ownEmpty' _ _ _ _ _ ?_ ?_; (focus (simp; done)); (focus (first | omega | (simp; done) | (simp; omega)))) | (with_reducible refine World.ownsRow.alloc ?_ _) | (with_reducible refine World.ownsRow.drew ?_))); done)); (focus (exact tacT)); omega; omega; (focus (first | omega | (simp; done) | (simp; omega))); intro Aa ca wa hoa hga; have ka := keep_row hga; have hza := hga.size; have hBa : Below Wm.heap.size Wm wa := Below.grown (by exact tacT) hga (by exact ooT) (fun j hj => by have h9 := Option.some.inj hj; first | omega | (simp at h9; omega)); have hza' := hBa.size)))
         all_goals
          have hlen9 : (q.take k2 ++ ⟨yv, v1, v2⟩ :: q.drop k2).length = k2 + 1 + (q.length - k2) := by rw [List.length_append, List.length_cons, List.length_take, List.length_drop]; omega
          replace hr_s := Row2.below hr_s hBc (by omega)
          replace kb_m := Blk.below kb_m hBc (by omega)
          replace hB := hB.trans (hBc.mono hB.size)
          have hzz := hBc.size
          obtain ⟨g9, cur9, rfl, -⟩ := own_open hoc (.inl (by omega))
          have HOC := Lib.hid (own_mono (base' := w3.heap.size) hoc (by omega))
          have HL9 := Lib.hid hlen9
          clear hoc hlen9 hBc
          go_wp2_with fail
          all_goals
           go_roundw
           case rel => exact ⟨i + 1, g9, cc, _, yv, by omega, by rw [HL9.out], by go_num, ⟨HNA.out.1, HNA.out.2.1, HNX.out⟩, ⟨fun h9 => by omega, fun _ => HY.out⟩, by rw [HL9.out]; omega, by rw [HL9.out]; exact HOC.out, kb_m, hr_s, hB⟩
           case measure => simp [intOf]; omega
      ·have hc1 := hprev hz
       have hip : (0 : Int) < (i : Int) := by omega
       have hip' : decide ((0 : Int) < (i : Int)) = true := by simpa using hz
       have hipn' : decide (0 < i) = true := by simpa using hz
       have hkm : ((i : Int) - 1) = ((i - 1 : Nat) : Int) := by omega
       have hkm0 : (0 : Int) ≤ ((i - 1 : Nat) : Int) := by omega
       have hwr0 : IntKind.i64.wrap ((i : Int) - 1) = ((i - 1 : Nat) : Int) := by rw [hkm]; exact IntWalk.i64_in _ (by omega)
       have hwr1 : IntKind.i64.wrap ((i - 1 : Nat) : Int) = ((i - 1 : Nat) : Int) := by exact IntWalk.i64_in _ (by omega)
       have hkt : ((i : Int) - 1).toNat = i - 1 := by omega
       have hkm1 : ((i - 1 : Nat) : Int) < (hs.length : Int) := by omega
       have hle : ¬ yv ≤ pv := by omega
       have hled : decide (yv ≤ pv) = false := by simpa using hle
       clear hprev c3
       go_wp2_with fail
       go_quiet ((go_at_call 43; refine (HINN.out _).mono ?_; exact fun _ _ h9 => ⟨h9.1, _, h9.2.symm⟩))
       go_wp2_with fail
       first | refine name_world ?_ | refine name_wp ?_
       intro W6 hW6
       have hz_W6 : wr.heap.size ≤ W6.heap.size := by rw [hW6]; first | exact Nat.le_refl _ | (simp; done)
       replace hB : Below w.heap.size w W6 := by rw [hW6]; repeat' (first | (with_reducible exact Below.refl _ _) | (with_reducible assumption) | (with_reducible refine Below.alloc ?_ ?_ _) | (with_reducible refine Below.setCell ?_ ?_ _) | (with_reducible refine Below.drew ?_) | (with_reducible refine below_drewN ?_ _) | (refine Below.trans ?_ (Below.mono (by with_reducible assumption) ?_)) | omega | (simp; done) | (simp; omega))
       replace kb_m : Blk W6 (w3.heap.size + 1) 67 #[.int .i64 v1, .int .i64 v2] := by rw [hW6]; repeat' (first | (with_reducible assumption) | (with_reducible refine Blk.drew ?_) | (with_reducible refine Blk.drewN ?_ _) | (with_reducible refine Blk.new' _ _ _ _ ?_; (first | rfl | omega | (simp; done))) | (with_reducible exact Blk.new _ _ _) | (with_reducible refine Blk.alloc ?_ _) | (with_reducible apply Blk.set8) | (with_reducible apply Blk.set7of8) | (with_reducible apply Blk.setlast8) | (with_reducible apply Blk.set7) | (with_reducible apply Blk.set2) | (with_reducible apply Blk.set3) | (with_reducible refine Blk.far ?_ ?_ _) | (simp; done) | (simp; omega) | (dsimp only; omega))
       replace hr_s : Row2 W6 w.heap.size w1.heap.size 69 3 A1 l.length c1 (t3s l) := by rw [hW6]; repeat' (first | (with_reducible assumption) | (with_reducible refine Row2.far ?_ ?_ _) | (with_reducible refine Row2.alloc ?_ _) | (with_reducible refine Row2.drewN ?_ _) | (with_reducible refine Row2.drew ?_) | (left; dsimp only; omega) | (right; dsimp only; omega))
       have HO_W6 : Hid (W6.ownsRow w3.heap.size 69 3 (.slice (some ⟨g, 0, none⟩) q.length c') q.length (t3s q)) := by rw [hW6]; exact HO.out
       have f3_W6 : W6.cell? ⟨b2, o2 + i, none⟩ = some (.int .i64 yv) := by rw [hW6]; exact f3
       clear hW6 HO f3
       have HO := HO_W6
       have f3 := f3_W6
       clear HO_W6 f3_W6
       have hgr : g < W6.heap.size := (HO.out.lt g rfl).2
       have hgm : g ≠ w3.heap.size + 1 := own_ne_blk HO.out kb_m (by decide)
       have kc6_m := kb_m.cells
       have hl6_m := kb_m.lt
       have hrq : RdT W6 W6.heap.size (some ⟨g, 0, none⟩) c' q := Rd.of_own HO.out
       have hqlc : (q.length : Int) ≤ (c' : Int) := by have := hrq.2.1; omega
       have hc'63 : c' ≤ 9223372036854775807 := hrq.2.2.1
       go_loopw [16] (fun av wz => ∃ (k2 n9 : Nat), k2 ≤ p ∧ av = .int .i64 k2 ∧ wz = W6.drewN n9) (fun av _ => q.length + 1 - (intOf av).toNat)
       case atStart => exact ⟨0, 0, Nat.zero_le _, rfl, rfl⟩
       case round =>
        obtain ⟨k2, n9, hk2, rfl, rfl⟩ := hrel
        have hk20 : (0 : Int) ≤ (k2 : Int) := by omega
        have f3d : (W6.drewN n9).cell? ⟨b2, o2 + i, none⟩ = some (.int .i64 yv) := f3
        by_cases hlt3 : k2 < q.length
        ·obtain ⟨bb9, oo9, e, hA9, hbb9, he, e0, e1, e2⟩ := hrq.at_ hlt3
         simp only [Option.some.injEq, Addr.mk.injEq, and_true] at hA9
         obtain ⟨rfl, rfl⟩ := hA9
         rw [Nat.zero_add] at e0 e1 e2
         have e0d : (W6.drewN n9).cell? ⟨g, k2 * 3, none⟩ = some (.int .i64 e.x) := e0
         have hk21 : (k2 : Int) < (q.length : Int) := by omega
         have hk22 : decide ((k2 : Int) < (q.length : Int)) = true := by simpa using hk21
         obtain ⟨g1, g2⟩ := HGO.out k2 e hk2 he
         by_cases hxo : e.x < yv
         ·have hxd : decide (e.x < yv) = true := by simpa using hxo
          have g3 := g1 (by omega)
          clear g1 g2 he
          go_wp2_with fail
          go_quiet (fail)
          go_wp2_with fail
          go_roundw
          case rel => exact ⟨k2 + 1, n9 + nq, g3, by go_num, (by first | rfl | exact World.drewN_drewN _ _ _)⟩
          case measure => simp [intOf]; omega
         ·have hxd : decide (e.x < yv) = false := by simpa using hxo
          obtain rfl := g2 (by omega)
          clear g1 g2
          by_cases hxt : e.x = yv
          ·have hxt' : (e.x == yv) = true := by simp [hxt]
           obtain ⟨a1, a2, ok, ha⟩ : ∃ a1 a2 ok, addF e.y e.z v1 v2 = (a1, a2, ok) := ⟨_, _, _, rfl⟩
           have HAF : Hid (∀ W, Calls Tryz.prog 140 #[.agg #[.int .i64 e.y, .int .i64 e.z], .agg #[.int .i64 v1, .int .i64 v2]] W fun e w' => e = frRet (a1, a2, ok) ∧ Below W.heap.size W w') := fun W => by rw [← ha]; exact AddFractionsS_any _ _ _ _ W
           have HAO := Lib.hid (HADO.out k2 e a1 a2 ok HP.out he hxt ha)
           have HEX := Lib.hid (And.intro he hxt)
           clear ha he
           go_wp2_with fail
           go_quiet (fail)
           go_wp2_with fail
           go_quiet (fail)
           go_wp2_with fail
           first | refine name_world ?_ | refine name_wp ?_
           intro Wm hWm
           have hz_Wm : W6.heap.size ≤ Wm.heap.size := by rw [hWm]; first | exact Nat.le_refl _ | (simp; done)
           replace hB : Below w.heap.size w Wm := by rw [hWm]; repeat' (first | (with_reducible exact Below.refl _ _) | (with_reducible assumption) | (with_reducible refine Below.alloc ?_ ?_ _) | (with_reducible refine Below.setCell ?_ ?_ _) | (with_reducible refine Below.drew ?_) | (with_reducible refine below_drewN ?_ _) | (refine Below.trans ?_ (Below.mono (by with_reducible assumption) ?_)) | omega | (simp; done) | (simp; omega))
           replace kb_m : Blk Wm (w3.heap.size + 1) 67 #[.int .i64 v1, .int .i64 v2] := by rw [hWm]; repeat' (first | (with_reducible assumption) | (with_reducible refine Blk.drew ?_) | (with_reducible refine Blk.drewN ?_ _) | (with_reducible refine Blk.new' _ _ _ _ ?_; (first | rfl | omega | (simp; done))) | (with_reducible exact Blk.new _ _ _) | (with_reducible refine Blk.alloc ?_ _) | (with_reducible apply Blk.set8) | (with_reducible apply Blk.set7of8) | (with_reducible apply Blk.setlast8) | (with_reducible apply Blk.set7) | (with_reducible apply Blk.set2) | (with_reducible apply Blk.set3) | (with_reducible refine Blk.far ?_ ?_ _) | (simp; done) | (simp; omega) | (dsimp only; omega))
           replace hr_s : Row2 Wm w.heap.size w1.heap.size 69 3 A1 l.length c1 (t3s l) := by rw [hWm]; repeat' (first | (with_reducible assumption) | (with_reducible refine Row2.far ?_ ?_ _) | (with_reducible refine Row2.alloc ?_ _) | (with_reducible refine Row2.drewN ?_ _) | (with_reducible refine Row2.drew ?_) | (left; dsimp only; omega) | (right; dsimp only; omega))
           have HO_Wm : Hid (Wm.ownsRow w3.heap.size 69 3 (.slice (some ⟨g, 0, none⟩) q.length c') q.length (t3s q)) := by rw [hWm]; exact HO.out
           have f3_Wm : Wm.cell? ⟨b2, o2 + i, none⟩ = some (.int .i64 yv) := by rw [hWm]; exact f3
           clear hWm HO f3
           have HO := HO_Wm
           have f3 := f3_Wm
           clear HO_Wm f3_Wm
           have hr_o := row_at HO.out
           have e1m : Wm.cell? ⟨g, k2 * 3 + 1, none⟩ = some (.int .i64 e.y) := by have := (own_setS hr_o.1 HEX.out.1); obtain ⟨g7, h7, -, -, -, -, h8, -, -⟩ := this; obtain rfl : g = g7 := (by simpa using h7); exact h8
           have e2m : Wm.cell? ⟨g, k2 * 3 + 2, none⟩ = some (.int .i64 e.z) := by have := (own_setS hr_o.1 HEX.out.1); obtain ⟨g7, h7, -, -, -, -, -, h8, -⟩ := this; obtain rfl : g = g7 := (by simpa using h7); exact h8
           have hgrm : g < Wm.heap.size := by omega
           have kcm_m := kb_m.cells
           have hlm := kb_m.lt
           go_region_held3 (fun w' => w'.cell? ⟨w3.heap.size + 1, 0, none⟩ = some (.int .i64 v1) ∧ w'.cell? ⟨w3.heap.size + 1, 1, none⟩ = some (.int .i64 v2) ∧ w'.cell? ⟨g, k2 * 3 + 1, none⟩ = some (.int .i64 e.y) ∧ w'.cell? ⟨g, k2 * 3 + 2, none⟩ = some (.int .i64 e.z)) (first | (with_reducible exact ⟨kcm_m 0, kcm_m 1, e1m, e2m⟩) | (refine ⟨?_, ?_, ?_, ?_⟩ <;> simp [go_sem, kcm_m 0, kcm_m 1, e1m, e2m, hgrm, hlm]; done) | (with_reducible exact ⟨y7_0, y7_1, y7_2, y7_3⟩) | (refine ⟨?_, ?_, ?_, ?_⟩ <;> simp [go_sem, y7_0, y7_1, y7_2, y7_3, hgrm, hlm, n7_0, l7_0, n7_1, l7_1, n7_2, l7_2, n7_3, l7_3]; done) | exact ⟨kcm_m 0, kcm_m 1, e1m, e2m⟩)
            (((go_at_call 140; refine (HAF.out _).mono ?_; rintro e w7 ⟨rfl, hb7⟩; unfold frRet; have hB7 : Below w.heap.size w w7 := (by exact tacT); have hz7 : Wm.heap.size ≤ w7.heap.size := (by have hzz := Below.size hb7; first | omega | (simp at hzz; omega)); have l7_0 : w3.heap.size + 1 < w7.heap.size := (by omega); have n7_0 := Nat.ne_of_lt l7_0; have y7_0 : w7.cell? ⟨w3.heap.size + 1, 0, none⟩ = some (.int .i64 v1) := (Below.cell hb7 (p := ⟨w3.heap.size + 1, 0, none⟩) (by first | (simp; done) | (simp; omega) | omega)).trans (by first | exact kcm_m 0 | (simp [go_sem, kcm_m 0, hgrm, hlm]; done)); have l7_1 : w3.heap.size + 1 < w7.heap.size := (by omega); have n7_1 := Nat.ne_of_lt l7_1; have y7_1 : w7.cell? ⟨w3.heap.size + 1, 1, none⟩ = some (.int .i64 v2) := (Below.cell hb7 (p := ⟨w3.heap.size + 1, 1, none⟩) (by first | (simp; done) | (simp; omega) | omega)).trans (by first | exact kcm_m 1 | (simp [go_sem, kcm_m 1, hgrm, hlm]; done)); have l7_2 : g < w7.heap.size := (by omega); have n7_2 := Nat.ne_of_lt l7_2; have y7_2 : w7.cell? ⟨g, k2 * 3 + 1, none⟩ = some (.int .i64 e.y) := (Below.cell hb7 (p := ⟨g, k2 * 3 + 1, none⟩) (by first | (simp; done) | (simp; omega) | omega)).trans (by first | exact e1m | (simp [go_sem, e1m, hgrm, hlm]; done)); have l7_3 : g < w7.heap.size := (by omega); have n7_3 := Nat.ne_of_lt l7_3; have y7_3 : w7.cell? ⟨g, k2 * 3 + 2, none⟩ = some (.int .i64 e.z) := (Below.cell hb7 (p := ⟨g, k2 * 3 + 2, none⟩) (by first | (simp; done) | (simp; omega) | omega)).trans (by first | exact e2m | (simp [go_sem, e2m, hgrm, hlm]; done)); have kb7_m : Blk w7 (w3.heap.size + 1) 67 #[.int .i64 v1, .int .i64 v2] := Blk.below (by exact blkT) hb7 (by first | (simp; done) | (simp; omega) | omega); have kc7_m := kb7_m.cells; have kf7_m := kb7_m.frozens; have hl7_m := kb7_m.lt; have hn7_m := Nat.ne_of_lt hl7_m; try (have kb9 : Blk w7 Wm.heap.size 67 #[.int .i64 0, .int .i64 0] := Blk.below (by exact blkT) hb7 (by exact sT); have kc9 := kb9.cells; have kf9 := kb9.frozens; have hl9 := kb9.lt; have hn9 := Nat.ne_of_lt hl9; have m0 : w3.heap.size + 1 ≠ Wm.heap.size := (by omega); have k0 : Wm.heap.size ≠ w3.heap.size + 1 := (by omega); have m1 : g ≠ Wm.heap.size := (by omega); have k1 : Wm.heap.size ≠ g := (by omega)))))
           all_goals
            have hr_s7 : Row2 w7 w.heap.size w1.heap.size 69 3 A1 l.length c1 (t3s l) := Row2.below (by exact rowT) hb7 (by exact oT)
            have hr_o7 : Row2 w7 g (g + 1) 69 3 (some ⟨g, 0, none⟩) q.length c' (t3s q) := Row2.below (by exact rowT) hb7 (by exact oT)
            obtain ⟨g9, hg9, -, -, hfz7, -, -, -, -⟩ := own_setS hr_o7.1 HEX.out.1
            obtain rfl : g = g9 := by simpa using hg9
            have hg9w : g < w7.heap.size := by omega
            clear hb7 hg9 hr_s hr_o
            cases ok
            ·have HR9 : Hid (R = (l, false)) := HNN.out (by rw [HNA.out.2.2]; exact addAll_no _ HAO.out)
             go_wp2_with fail
             refine bodyPost_ret (v := .tuple #[.slice A1 l.length c1, .bool false]) ?_ rfl ?_
             ·simp [results, Tryz.results112, go_sem]
             ·rw [HR9.out]; exact ⟨A1, c1, rfl, (Row2.mono (lo := w.heap.size) (hi := w1.heap.size) (hi' := w1.heap.size) (by exact rowT) (by omega) (Nat.le_refl _)).1, by exact tacT⟩
            ·have HNX : Hid (addAll q0 hs v1 v2 = addAll (q.set k2 ⟨yv, a1, a2⟩) (hs.drop (i + 1)) v1 v2) := by show _ = _; rw [HNA.out.2.2]; exact addAll_yes _ HAO.out
             go_wp2_with fail
             go_roundw
             case rel =>
              refine ⟨i + 1, g, c', q.set k2 ⟨yv, a1, a2⟩, yv, by omega, by rw [List.length_set], by go_num, ⟨HNA.out.1, HNA.out.2.1, HNX.out⟩, ⟨fun h9 => by omega, fun _ => HY.out⟩, by rw [List.length_set]; omega, ?_, by exact blkT, by exact rowT, by exact tacT⟩
              rw [List.length_set, ← HEX.out.2]
              first
               |exact own_mono (base' := w3.heap.size) (own_store2 (base := g) (hi := g + 1) (by (repeat' (first | (with_reducible assumption) | (with_reducible refine Row2.far ?_ ?_ _) | (with_reducible refine Row2.alloc ?_ _) | (with_reducible refine Row2.drewN ?_ _) | (with_reducible refine Row2.drew ?_) | (left; dsimp only; omega) | (right; dsimp only; omega))); all_goals (dsimp only; omega)) HEX.out.1 a1 a2).1 (by omega)
               |exact World.ownsRow.alloc (own_mono (base' := w3.heap.size) (own_store2 (base := g) (hi := g + 1) (by (repeat' (first | (with_reducible assumption) | (with_reducible refine Row2.far ?_ ?_ _) | (with_reducible refine Row2.alloc ?_ _) | (with_reducible refine Row2.drewN ?_ _) | (with_reducible refine Row2.drew ?_) | (left; dsimp only; omega) | (right; dsimp only; omega))); all_goals (dsimp only; omega)) HEX.out.1 a1 a2).1 (by omega)) _
             case measure => simp [intOf]; omega
          ·have hxt' : (e.x == yv) = false := by simp [hxt]
           have hne : ∀ e', q[k2]? = some e' → e'.x ≠ yv := fun e' h9 => by rw [he] at h9; rw [← Option.some.inj h9]; exact hxt
           clear he
           go_wp2_with fail
           go_quiet (fail)
           go_wp2_with fail
           go_quiet (fail)
           go_wp2_with fail
           first | refine name_world ?_ | refine name_wp ?_
           intro Wm hWm
           have hz_Wm : W6.heap.size ≤ Wm.heap.size := by rw [hWm]; first | exact Nat.le_refl _ | (simp; done)
           replace hB : Below w.heap.size w Wm := by rw [hWm]; repeat' (first | (with_reducible exact Below.refl _ _) | (with_reducible assumption) | (with_reducible refine Below.alloc ?_ ?_ _) | (with_reducible refine Below.setCell ?_ ?_ _) | (with_reducible refine Below.drew ?_) | (with_reducible refine below_drewN ?_ _) | (refine Below.trans ?_ (Below.mono (by with_reducible assumption) ?_)) | omega | (simp; done) | (simp; omega))
           replace kb_m : Blk Wm (w3.heap.size + 1) 67 #[.int .i64 v1, .int .i64 v2] := by rw [hWm]; repeat' (first | (with_reducible assumption) | (with_reducible refine Blk.drew ?_) | (with_reducible refine Blk.drewN ?_ _) | (with_reducible refine Blk.new' _ _ _ _ ?_; (first | rfl | omega | (simp; done))) | (with_reducible exact Blk.new _ _ _) | (with_reducible refine Blk.alloc ?_ _) | (with_reducible apply Blk.set8) | (with_reducible apply Blk.set7of8) | (with_reducible apply Blk.setlast8) | (with_reducible apply Blk.set7) | (with_reducible apply Blk.set2) | (with_reducible apply Blk.set3) | (with_reducible refine Blk.far ?_ ?_ _) | (simp; done) | (simp; omega) | (dsimp only; omega))
           replace hr_s : Row2 Wm w.heap.size w1.heap.size 69 3 A1 l.length c1 (t3s l) := by rw [hWm]; repeat' (first | (with_reducible assumption) | (with_reducible refine Row2.far ?_ ?_ _) | (with_reducible refine Row2.alloc ?_ _) | (with_reducible refine Row2.drewN ?_ _) | (with_reducible refine Row2.drew ?_) | (left; dsimp only; omega) | (right; dsimp only; omega))
           have HO_Wm : Hid (Wm.ownsRow w3.heap.size 69 3 (.slice (some ⟨g, 0, none⟩) q.length c') q.length (t3s q)) := by rw [hWm]; exact HO.out
           have f3_Wm : Wm.cell? ⟨b2, o2 + i, none⟩ = some (.int .i64 yv) := by rw [hWm]; exact f3
           clear hWm HO f3
           have HO := HO_Wm
           have f3 := f3_Wm
           clear HO_Wm f3_Wm
           have hkc : (k2 : Int) ≤ (c' : Int) := by omega
           have hkq : (k2 : Int) ≤ (q.length : Int) := by omega
           have HNX : Hid (addAll q0 hs v1 v2 = addAll (q.take k2 ++ ⟨yv, v1, v2⟩ :: q.drop k2) (hs.drop (i + 1)) v1 v2) := by show _ = _; rw [HNA.out.2.2]; exact addAll_yes _ (HADN.out hne)
           have hrq' : RdT Wm Wm.heap.size (some ⟨g, 0, none⟩) c' q := Rd.of_own HO.out
           have HTR : Rd Wm Wm.heap.size 3 (some ⟨g, 0, none⟩) k2 c' (t3s (q.take k2)) := by rw [t3s_take]; exact Rd.take hrq' (by omega)
           have HDR : Rd Wm Wm.heap.size 3 (if c' = k2 then some ⟨g, 0, none⟩ else some ⟨g, k2 * 3, none⟩) (q.length - k2) (c' - k2) (t3s (q.drop k2)) := by rw [t3s_drop]; exact Rd.drop hrq' (by omega)
           have hlb2 : b2 < Wm.heap.size := by omega
           clear hne hrq'
           go_wp2_with fail
           go_region_held3 (fun w' => w'.cell? ⟨w3.heap.size + 1, 0, none⟩ = some (.int .i64 v1) ∧ w'.cell? ⟨w3.heap.size + 1, 1, none⟩ = some (.int .i64 v2) ∧ w'.cell? ⟨b2, o2 + i, none⟩ = some (.int .i64 yv)) (first | (refine ⟨(Below.cell (B := Wm.heap.size) (w := Wm) (p := ⟨w3.heap.size + 1, 0, none⟩) ?_ (by show w3.heap.size + 1 < Wm.heap.size; omega)).trans (kb_m.cell 0), (Below.cell (B := Wm.heap.size) (w := Wm) (p := ⟨w3.heap.size + 1, 1, none⟩) ?_ (by show w3.heap.size + 1 < Wm.heap.size; omega)).trans (kb_m.cell 1), (Below.cell (B := Wm.heap.size) (w := Wm) (p := ⟨b2, o2 + i, none⟩) ?_ (by show b2 < Wm.heap.size; omega)).trans f3⟩ <;> (repeat' (first | (with_reducible exact Below.refl _ _) | (with_reducible assumption) | (with_reducible refine Below.alloc ?_ ?_ _) | (with_reducible refine Below.setCell ?_ ?_ _) | (with_reducible refine Below.drew ?_) | (with_reducible refine below_drewN ?_ _) | (refine Below.trans ?_ (Below.mono (by with_reducible assumption) ?_)) | omega | (simp; done) | (simp; omega)))))
            ((first | (refine step_appB rfl _ _ 33 rfl Wm.heap.size 69 (.agg #[.int .i64 0, .int .i64 0, .int .i64 0]) 3 24 Tryz.underlying33 infoRight rfl (Nat.le_of_ble_eq_true rfl) (.slice Ab (k2 + 1) cb) (k2 + 1) (t3s (q.take k2 ++ [⟨yv, v1, v2⟩])) rfl ?_ _ _ (q.length - k2) (c' - k2) (t3s (q.drop k2)) rfl (Rd.keep (B := Wm.heap.size) HDR (fun j hj => Below.cell (B := Wm.heap.size) ?_ hj)) (t3s_one _) ?_ ?_ ?_ ?_; (focus ((repeat' (first | (with_reducible assumption) | (with_reducible refine World.ownsRow.alloc ?_ _) | (with_reducible refine World.ownsRow.drew ?_))); done)); (focus (exact tacT)); omega; omega; (focus (first | omega | (simp; done) | (simp; omega))); intro Ac cc wc hoc hgc kc9; rw [← t3s_append, List.append_assoc, List.singleton_append] at hoc; have hzc := hgc.size; have hBc : Below Wm.heap.size Wm wc := Below.grown (by exact tacT) hgc (by exact ooT) (fun j hj => (hob.lt j hj).1)) | (refine step_appB rfl _ _ 33 rfl Wm.heap.size 69 (.agg #[.int .i64 0, .int .i64 0, .int .i64 0]) 3 24 Tryz.underlying33 infoRight rfl (Nat.le_of_ble_eq_true rfl) (.slice Aa k2 ca) k2 (t3s (q.take k2)) rfl ?_ _ _ 1 1 (t3s [⟨yv, v1, v2⟩]) rfl (rd_blk (t := 69) ?_) (t3s_one _) ?_ ?_ ?_ ?_; (focus ((repeat' (first | (with_reducible assumption) | (with_reducible refine World.ownsRow.alloc ?_ _) | (with_reducible refine World.ownsRow.drew ?_))); done)); (focus ((repeat' (first | (with_reducible assumption) | (with_reducible refine ka _ _ _ ?_ ?_) | (with_reducible refine Blk.drew ?_) | (with_reducible refine Blk.new' _ _ _ _ ?_; (first | rfl | omega | (simp; done))) | (with_reducible refine Blk.alloc ?_ _) | (intro h9; have h8 := Option.some.inj h9; first | omega | (simp at h8; done) | (simp at h8; omega)) | omega)); done)); omega; omega; (focus (first | omega | (simp; done) | (simp; omega))); intro Ab cb wb hob hgb kb; rw [← t3s_append] at hob; have hzb := hgb.size; have hBb : Below Wm.heap.size Wm wb := Below.grown (by exact tacT) hgb (by exact ooT) (fun j hj => (hoa.lt j hj).1); have hzb' := hBb.size) | (refine step_appE rfl _ _ 33 rfl Wm.heap.size 69 (.agg #[.int .i64 0, .int .i64 0, .int .i64 0]) 3 24 Tryz.underlying33 infoRight rfl (Nat.le_of_ble_eq_true rfl) _ rfl ?_ Wm.heap.size (some ⟨g, 0, none⟩) k2 c' (t3s (q.take k2)) rfl (Rd.keep (B := Wm.heap.size) HTR (fun j hj => Below.cell (B := Wm.heap.size) ?_ hj)) (t3s_one _) ?_ ?_ ?_ ?_; (focus ((repeat' (first | (refine ownEmpty' _ _ _ _ _ ?_ ?_; (focus (simp; done)); (focus (first | omega | (simp; done) | (simp; omega)))) | (with_reducible refine World.ownsRow.alloc ?_ _) | (with_reducible refine World.ownsRow.drew ?_))); done)); (focus (exact tacT)); omega; omega; (focus (first | omega | (simp; done) | (simp; omega))); intro Aa ca wa hoa hga; have ka := keep_row hga; have hza := hga.size; have hBa : Below Wm.heap.size Wm wa := Below.grown (by exact tacT) hga (by exact ooT) (fun j hj => by have h9 := Option.some.inj hj; first | omega | (simp at h9; omega)); have hza' := hBa.size)))
           all_goals
            have hlen9 : (q.take k2 ++ ⟨yv, v1, v2⟩ :: q.drop k2).length = k2 + 1 + (q.length - k2) := by rw [List.length_append, List.length_cons, List.length_take, List.length_drop]; omega
            replace hr_s := Row2.below hr_s hBc (by omega)
            replace kb_m := Blk.below kb_m hBc (by omega)
            replace hB := hB.trans (hBc.mono hB.size)
            have hzz := hBc.size
            obtain ⟨g9, cur9, rfl, -⟩ := own_open hoc (.inl (by omega))
            have HOC := Lib.hid (own_mono (base' := w3.heap.size) hoc (by omega))
            have HL9 := Lib.hid hlen9
            clear hoc hlen9 hBc
            go_wp2_with fail
            all_goals
             go_roundw
             case rel => exact ⟨i + 1, g9, cc, _, yv, by omega, by rw [HL9.out], by go_num, ⟨HNA.out.1, HNA.out.2.1, HNX.out⟩, ⟨fun h9 => by omega, fun _ => HY.out⟩, by rw [HL9.out]; omega, by rw [HL9.out]; exact HOC.out, kb_m, hr_s, hB⟩
             case measure => simp [intOf]; omega
        ·have hk21 : ¬ (k2 : Int) < (q.length : Int) := by omega
         have hk22 : decide ((k2 : Int) < (q.length : Int)) = false := by simpa using hk21
         obtain rfl := HEN2.out k2 hk2 hlt3
         have hne : ∀ e', q[k2]? = some e' → e'.x ≠ yv := fun e' h9 => by have := (List.getElem?_eq_some_iff.1 h9).1; omega
         go_wp2_with fail
         go_quiet (fail)
         go_wp2_with fail
         go_quiet (fail)
         go_wp2_with fail
         first | refine name_world ?_ | refine name_wp ?_
         intro Wm hWm
         have hz_Wm : W6.heap.size ≤ Wm.heap.size := by rw [hWm]; first | exact Nat.le_refl _ | (simp; done)
         replace hB : Below w.heap.size w Wm := by rw [hWm]; repeat' (first | (with_reducible exact Below.refl _ _) | (with_reducible assumption) | (with_reducible refine Below.alloc ?_ ?_ _) | (with_reducible refine Below.setCell ?_ ?_ _) | (with_reducible refine Below.drew ?_) | (with_reducible refine below_drewN ?_ _) | (refine Below.trans ?_ (Below.mono (by with_reducible assumption) ?_)) | omega | (simp; done) | (simp; omega))
         replace kb_m : Blk Wm (w3.heap.size + 1) 67 #[.int .i64 v1, .int .i64 v2] := by rw [hWm]; repeat' (first | (with_reducible assumption) | (with_reducible refine Blk.drew ?_) | (with_reducible refine Blk.drewN ?_ _) | (with_reducible refine Blk.new' _ _ _ _ ?_; (first | rfl | omega | (simp; done))) | (with_reducible exact Blk.new _ _ _) | (with_reducible refine Blk.alloc ?_ _) | (with_reducible apply Blk.set8) | (with_reducible apply Blk.set7of8) | (with_reducible apply Blk.setlast8) | (with_reducible apply Blk.set7) | (with_reducible apply Blk.set2) | (with_reducible apply Blk.set3) | (with_reducible refine Blk.far ?_ ?_ _) | (simp; done) | (simp; omega) | (dsimp only; omega))
         replace hr_s : Row2 Wm w.heap.size w1.heap.size 69 3 A1 l.length c1 (t3s l) := by rw [hWm]; repeat' (first | (with_reducible assumption) | (with_reducible refine Row2.far ?_ ?_ _) | (with_reducible refine Row2.alloc ?_ _) | (with_reducible refine Row2.drewN ?_ _) | (with_reducible refine Row2.drew ?_) | (left; dsimp only; omega) | (right; dsimp only; omega))
         have HO_Wm : Hid (Wm.ownsRow w3.heap.size 69 3 (.slice (some ⟨g, 0, none⟩) q.length c') q.length (t3s q)) := by rw [hWm]; exact HO.out
         have f3_Wm : Wm.cell? ⟨b2, o2 + i, none⟩ = some (.int .i64 yv) := by rw [hWm]; exact f3
         clear hWm HO f3
         have HO := HO_Wm
         have f3 := f3_Wm
         clear HO_Wm f3_Wm
         have hkc : (k2 : Int) ≤ (c' : Int) := by omega
         have hkq : (k2 : Int) ≤ (q.length : Int) := by omega
         have HNX : Hid (addAll q0 hs v1 v2 = addAll (q.take k2 ++ ⟨yv, v1, v2⟩ :: q.drop k2) (hs.drop (i + 1)) v1 v2) := by show _ = _; rw [HNA.out.2.2]; exact addAll_yes _ (HADN.out hne)
         have hrq' : RdT Wm Wm.heap.size (some ⟨g, 0, none⟩) c' q := Rd.of_own HO.out
         have HTR : Rd Wm Wm.heap.size 3 (some ⟨g, 0, none⟩) k2 c' (t3s (q.take k2)) := by rw [t3s_take]; exact Rd.take hrq' (by omega)
         have HDR : Rd Wm Wm.heap.size 3 (if c' = k2 then some ⟨g, 0, none⟩ else some ⟨g, k2 * 3, none⟩) (q.length - k2) (c' - k2) (t3s (q.drop k2)) := by rw [t3s_drop]; exact Rd.drop hrq' (by omega)
         have hlb2 : b2 < Wm.heap.size := by omega
         clear hne hrq'
         go_wp2_with fail
         go_region_held3 (fun w' => w'.cell? ⟨w3.heap.size + 1, 0, none⟩ = some (.int .i64 v1) ∧ w'.cell? ⟨w3.heap.size + 1, 1, none⟩ = some (.int .i64 v2) ∧ w'.cell? ⟨b2, o2 + i, none⟩ = some (.int .i64 yv)) (first | (refine ⟨(Below.cell (B := Wm.heap.size) (w := Wm) (p := ⟨w3.heap.size + 1, 0, none⟩) ?_ (by show w3.heap.size + 1 < Wm.heap.size; omega)).trans (kb_m.cell 0), (Below.cell (B := Wm.heap.size) (w := Wm) (p := ⟨w3.heap.size + 1, 1, none⟩) ?_ (by show w3.heap.size + 1 < Wm.heap.size; omega)).trans (kb_m.cell 1), (Below.cell (B := Wm.heap.size) (w := Wm) (p := ⟨b2, o2 + i, none⟩) ?_ (by show b2 < Wm.heap.size; omega)).trans f3⟩ <;> (repeat' (first | (with_reducible exact Below.refl _ _) | (with_reducible assumption) | (with_reducible refine Below.alloc ?_ ?_ _) | (with_reducible refine Below.setCell ?_ ?_ _) | (with_reducible refine Below.drew ?_) | (with_reducible refine below_drewN ?_ _) | (refine Below.trans ?_ (Below.mono (by with_reducible assumption) ?_)) | omega | (simp; done) | (simp; omega)))))
          ((first | (refine step_appB rfl _ _ 33 rfl Wm.heap.size 69 (.agg #[.int .i64 0, .int .i64 0, .int .i64 0]) 3 24 Tryz.underlying33 infoRight rfl (Nat.le_of_ble_eq_true rfl) (.slice Ab (k2 + 1) cb) (k2 + 1) (t3s (q.take k2 ++ [⟨yv, v1, v2⟩])) rfl ?_ _ _ (q.length - k2) (c' - k2) (t3s (q.drop k2)) rfl (Rd.keep (B := Wm.heap.size) HDR (fun j hj => Below.cell (B := Wm.heap.size) ?_ hj)) (t3s_one _) ?_ ?_ ?_ ?_; (focus ((repeat' (first | (with_reducible assumption) | (with_reducible refine World.ownsRow.alloc ?_ _) | (with_reducible refine World.ownsRow.drew ?_))); done)); (focus (exact tacT)); omega; omega; (focus (first | omega | (simp; done) | (simp; omega))); intro Ac cc wc hoc hgc kc9; rw [← t3s_append, List.append_assoc, List.singleton_append] at hoc; have hzc := hgc.size; have hBc : Below Wm.heap.size Wm wc := Below.grown (by exact tacT) hgc (by exact ooT) (fun j hj => (hob.lt j hj).1)) | (refine step_appB rfl _ _ 33 rfl Wm.heap.size 69 (.agg #[.int .i64 0, .int .i64 0, .int .i64 0]) 3 24 Tryz.underlying33 infoRight rfl (Nat.le_of_ble_eq_true rfl) (.slice Aa k2 ca) k2 (t3s (q.take k2)) rfl ?_ _ _ 1 1 (t3s [⟨yv, v1, v2⟩]) rfl (rd_blk (t := 69) ?_) (t3s_one _) ?_ ?_ ?_ ?_; (focus ((repeat' (first | (with_reducible assumption) | (with_reducible refine World.ownsRow.alloc ?_ _) | (with_reducible refine World.ownsRow.drew ?_))); done)); (focus ((repeat' (first | (with_reducible assumption) | (with_reducible refine ka _ _ _ ?_ ?_) | (with_reducible refine Blk.drew ?_) | (with_reducible refine Blk.new' _ _ _ _ ?_; (first | rfl | omega | (simp; done))) | (with_reducible refine Blk.alloc ?_ _) | (intro h9; have h8 := Option.some.inj h9; first | omega | (simp at h8; done) | (simp at h8; omega)) | omega)); done)); omega; omega; (focus (first | omega | (simp; done) | (simp; omega))); intro Ab cb wb hob hgb kb; rw [← t3s_append] at hob; have hzb := hgb.size; have hBb : Below Wm.heap.size Wm wb := Below.grown (by exact tacT) hgb (by exact ooT) (fun j hj => (hoa.lt j hj).1); have hzb' := hBb.size) | (refine step_appE rfl _ _ 33 rfl Wm.heap.size 69 (.agg #[.int .i64 0, .int .i64 0, .int .i64 0]) 3 24 Tryz.underlying33 infoRight rfl (Nat.le_of_ble_eq_true rfl) _ rfl ?_ Wm.heap.size (some ⟨g, 0, none⟩) k2 c' (t3s (q.take k2)) rfl (Rd.keep (B := Wm.heap.size) HTR (fun j hj => Below.cell (B := Wm.heap.size) ?_ hj)) (t3s_one _) ?_ ?_ ?_ ?_; (focus ((repeat' (first | (refine ownEmpty' _ _ _ _ _ ?_ ?_; (focus (simp; done)); (focus (first | omega | (simp; done) | (simp; omega)))) | (with_reducible refine World.ownsRow.alloc ?_ _) | (with_reducible refine World.ownsRow.drew ?_))); done)); (focus (exact tacT)); omega; omega; (focus (first | omega | (simp; done) | (simp; omega))); intro Aa ca wa hoa hga; have ka := keep_row hga; have hza := hga.size; have hBa : Below Wm.heap.size Wm wa := Below.grown (by exact tacT) hga (by exact ooT) (fun j hj => by have h9 := Option.some.inj hj; first | omega | (simp at h9; omega)); have hza' := hBa.size)))
         all_goals
          have hlen9 : (q.take k2 ++ ⟨yv, v1, v2⟩ :: q.drop k2).length = k2 + 1 + (q.length - k2) := by rw [List.length_append, List.length_cons, List.length_take, List.length_drop]; omega
          replace hr_s := Row2.below hr_s hBc (by omega)
          replace kb_m := Blk.below kb_m hBc (by omega)
          replace hB := hB.trans (hBc.mono hB.size)
          have hzz := hBc.size
          obtain ⟨g9, cur9, rfl, -⟩ := own_open hoc (.inl (by omega))
          have HOC := Lib.hid (own_mono (base' := w3.heap.size) hoc (by omega))
          have HL9 := Lib.hid hlen9
          clear hoc hlen9 hBc
          go_wp2_with fail
          all_goals
           go_roundw
           case rel => exact ⟨i + 1, g9, cc, _, yv, by omega, by rw [HL9.out], by go_num, ⟨HNA.out.1, HNA.out.2.1, HNX.out⟩, ⟨fun h9 => by omega, fun _ => HY.out⟩, by rw [HL9.out]; omega, by rw [HL9.out]; exact HOC.out, kb_m, hr_s, hB⟩
           case measure => simp [intOf]; omega
     ·have hi1 : ¬ (i : Int) < (hs.length : Int) := by omega
      have h9 := HAA.out
      rw [drop_end hlt2] at h9
      have HEE : Hid (R = if rightsOk q then (q, true) else (l, false)) := by
       show _ = _
       rw [HEN.out h9.1 (by rw [h9.2.1]; simp), h9.2.2, addAll_nil]
      clear h9
      have hgr : g < wr.heap.size := (HO.out.lt g rfl).2
      go_wp2_with fail
      have hr_z := row_at HO.out
      refine (HRK.out _ _ _ _ _ rfl (Rd.of_own HO.out)).mono ?_
      rintro e wz ⟨rfl, hb⟩
      replace hB := hB.trans (Below.mono hb hB.size)
      have hz_wz : wr.heap.size ≤ wz.heap.size := Below.size hb
      replace hr_s := Row2.below hr_s hb (by omega)
      replace hr_z := Row2.below hr_z hb (by omega)
      clear hb
      cases hok : rightsOk (q)
      ·have HR9 : Hid (R = (l, false)) := by have h9 := HEE.out; rw [hok] at h9; exact h9
       clear hok
       go_wp2_with fail
       refine bodyPost_ret (v := .tuple #[.slice A1 l.length c1, .bool false]) ?_ rfl ?_
       ·simp [results, Tryz.results112, go_sem]
       ·rw [HR9.out]; exact ⟨A1, c1, rfl, (Row2.mono (lo := w.heap.size) (hi := w1.heap.size) (hi' := w1.heap.size) (by exact rowT) (by omega) (Nat.le_refl _)).1, by exact tacT⟩
      ·have HR9 : Hid (R = (q, true)) := by have h9 := HEE.out; rw [hok] at h9; exact h9
       clear hok
       go_wp2_with fail
       refine bodyPost_ret (v := .tuple #[.slice (some ⟨g, 0, none⟩) q.length c', .bool true]) ?_ rfl ?_
       ·simp [results, Tryz.results112, go_sem]
       ·rw [HR9.out]
        exact ⟨some ⟨g, 0, none⟩, c', rfl, (Row2.mono (lo' := w.heap.size) (hi' := wz.heap.size) hr_z (by omega) (by omega)).1, by exact tacT⟩
theorem InheritS_any (A : Option Addr) (c : Nat) (l : List T3) (o : Int) (B : Option Addr) (d : Nat) (hs : List Int) (w : World) (h : RdT w w.heap.size A c l) (hi : RdI w w.heap.size B d hs) (hsz : l.length ≤ 1048576) :
  Calls Tryz.prog 112 #[.slice A l.length c, .int .i64 o, .slice B hs.length d] w (SellRet (inhF l o hs) w) := by
 cases g1 : rightsOk l
 ·rw [inhG_no (by rw [g1]; simp)]; exact InheritS_no1 A c l o B d hs w h hi hsz g1
 cases g3 : inB hs.length 1 6
 ·rw [inhG_no (by rw [g3]; simp)]; exact InheritS_no2 A c l o B d hs w h hi hsz g1 g3
 exact InheritS_yes A c l o B d hs w h hi hsz g1 g3 _ _ rfl _ _ _ rfl
end
end Go.Proofs.YtpmmjhpmheooeaaGreatDoor
