/- ReadRight: the reference's side. -/
import Derived.Test.YtbkgofjajhplpaaDoorReadRight
namespace Go.Proofs.YtbkgofjajhplpaaDoor
set_option linter.unusedSimpArgs false
set_option linter.unusedVariables false
open Go.RowKit
set_option maxRecDepth 20000
theorem spl_len (c : UInt8) : ∀ (s cur : List UInt8), ∀ x ∈ spl c cur s, x.length ≤ cur.length + s.length
  | [], cur, x, h => by rw [spl_nil, List.mem_singleton] at h; rw [h]; simp
  | b :: s, cur, x, h => by
    rw [spl] at h
    split at h
    · rcases List.mem_cons.1 h with rfl | h
      · simp
      · have := spl_len c s [] x h
        simp at this ⊢
        omega
    · have := spl_len c s _ x h
      rw [List.length_append, List.length_singleton] at this
      rw [List.length_cons]
      omega
theorem rsX_no {t : List UInt8} (h : rsI t = false) : rsX t = ⟨0, 0, 0⟩ ∧ rsI t = false := ⟨by unfold rsX; rw [h]; rfl, h⟩
set_option maxHeartbeats 3200000 in
theorem ReadRightS_any (t : List UInt8) (w : World) (ht : Tab w) (hs : t.length ≤ 1048576) :
    Calls Tryd.prog 39 #[sv t] w fun e w' => e = .returned (.tuple #[.agg #[.int .i64 (rsX t).x, .int .i64 (rsX t).y, .int .i64 (rsX t).z], .bool (rsI t)]) ∧ Below w.heap.size w w' := by
  have hB := Below.refl w.heap.size w
  obtain ⟨la, hla⟩ : ∃ la, la = rsA t := ⟨_, rfl⟩
  have HSp : Hid (∀ W, Calls Tryd.prog 38 #[sv t, .int .u8 58] W fun e w' => ∃ A' c', e = .returned (.slice A' la.length c') ∧ OwnSt w' W.heap.size A' c' la ∧ Below W.heap.size W w') := fun W => by rw [hla]; exact l35Split_any t 58 58 rfl W hs
  have HLA := Lib.hid hla
  clear hla
  by_cases hg : 20 < t.length
  · have HN := Lib.hid (rsX_no (t := t) (by unfold rsI; rw [decide_eq_false (show ¬ t.length ≤ 20 by omega)]; rfl))
    have e1 : (20 : Int) < (t.length : Int) := by omega
    have e2 : decide ((20 : Int) < (t.length : Int)) = true := decide_eq_true e1
    have e3 : decide (20 < t.length) = true := decide_eq_true hg
    go_enter Tryd.func39, Tryd.ntmps39
    go_wp2_with fail
    first | refine name_world ?_ | refine name_wp ?_
    intro W1 hW
    replace hB : Below w.heap.size w W1 := by rw [hW]; repeat' (first | (with_reducible exact Below.refl _ _) | (with_reducible assumption) | (with_reducible refine Below.alloc ?_ ?_ _) | (with_reducible refine Below.setCell ?_ ?_ _) | (with_reducible refine Below.drew ?_) | (with_reducible refine below_drewN ?_ _) | (refine Below.trans ?_ (Below.mono (by with_reducible assumption) ?_)) | omega | (simp; done) | (simp; omega))
    have hz_W1 : w.heap.size ≤ W1.heap.size := by rw [hW]; first | (simp; done) | (simp; omega)
    replace kb_r : Blk W1 (w.heap.size) 67 #[.int .i64 0, .int .i64 0, .int .i64 0] := by rw [hW]; repeat' (first | (with_reducible assumption) | (with_reducible refine Blk.drew ?_) | (with_reducible refine Blk.drewN ?_ _) | (with_reducible refine Blk.new' _ _ _ _ ?_; (first | rfl | omega | (simp; done))) | (with_reducible exact Blk.new _ _ _) | (with_reducible refine Blk.alloc ?_ _) | (with_reducible apply Blk.set8) | (with_reducible apply Blk.set7of8) | (with_reducible apply Blk.setlast8) | (with_reducible apply Blk.set7) | (with_reducible apply Blk.set2) | (with_reducible apply Blk.set3) | (with_reducible refine Blk.far ?_ ?_ _) | (simp; done) | (simp; omega) | (dsimp only; omega))
    have hLW1_r := kb_r.lt
    try clear kc_r kf_r
    clear hW
    refine (HSp.out _).mono ?_
    rintro e w1 ⟨A1, c1, rfl, ho1, hb⟩
    replace hB := hB.trans (Below.mono hb hB.size)
    have hz_w1 : W1.heap.size ≤ w1.heap.size := Below.size hb
    replace kb_r := Blk.below kb_r hb (by first | exact kb_r.lt | (have := kb_r.lt; omega))
    have kc_r := kb_r.cells
    have kf_r := kb_r.frozens
    have hl_r := kb_r.lt
    have hn_r := Nat.ne_of_lt kb_r.lt
    clear hb
    go_wp2_with fail
    exact bodyPost_ret (v := .tuple #[.agg #[.int .i64 0, .int .i64 0, .int .i64 0], .bool false]) (by simp [results, Tryd.results39, go_sem, kc_r, hl_r, hn_r]) rfl ⟨by rw [HN.out.1, HN.out.2], by repeat' (first | (with_reducible exact Below.refl _ _) | (with_reducible assumption) | (with_reducible refine Below.alloc ?_ ?_ _) | (with_reducible refine Below.setCell ?_ ?_ _) | (with_reducible refine Below.drew ?_) | (with_reducible refine below_drewN ?_ _) | (refine Below.trans ?_ (Below.mono (by with_reducible assumption) ?_)) | omega | (simp; done) | (simp; omega))⟩
  have e1 : ¬ (20 : Int) < (t.length : Int) := by omega
  have e2 : decide ((20 : Int) < (t.length : Int)) = false := decide_eq_false e1
  have e3 : decide (20 < t.length) = false := decide_eq_false hg
  by_cases h2 : la.length = 2
  case neg =>
    have HN := Lib.hid (rsX_no (t := t) (by unfold rsI; rw [← HLA.out, decide_eq_false h2]; simp))
    have f1 : ((la.length : Int) != 2) = true := by rw [bne_iff_ne]; omega
    have f2 : ¬ (la.length : Int) = 2 := by omega
    have f3 : ((la.length : Int) == 2) = false := beq_eq_false_iff_ne.2 f2
    go_enter Tryd.func39, Tryd.ntmps39
    go_wp2_with fail
    first | refine name_world ?_ | refine name_wp ?_
    intro W1 hW
    replace hB : Below w.heap.size w W1 := by rw [hW]; repeat' (first | (with_reducible exact Below.refl _ _) | (with_reducible assumption) | (with_reducible refine Below.alloc ?_ ?_ _) | (with_reducible refine Below.setCell ?_ ?_ _) | (with_reducible refine Below.drew ?_) | (with_reducible refine below_drewN ?_ _) | (refine Below.trans ?_ (Below.mono (by with_reducible assumption) ?_)) | omega | (simp; done) | (simp; omega))
    have hz_W1 : w.heap.size ≤ W1.heap.size := by rw [hW]; first | (simp; done) | (simp; omega)
    replace kb_r : Blk W1 (w.heap.size) 67 #[.int .i64 0, .int .i64 0, .int .i64 0] := by rw [hW]; repeat' (first | (with_reducible assumption) | (with_reducible refine Blk.drew ?_) | (with_reducible refine Blk.drewN ?_ _) | (with_reducible refine Blk.new' _ _ _ _ ?_; (first | rfl | omega | (simp; done))) | (with_reducible exact Blk.new _ _ _) | (with_reducible refine Blk.alloc ?_ _) | (with_reducible apply Blk.set8) | (with_reducible apply Blk.set7of8) | (with_reducible apply Blk.setlast8) | (with_reducible apply Blk.set7) | (with_reducible apply Blk.set2) | (with_reducible apply Blk.set3) | (with_reducible refine Blk.far ?_ ?_ _) | (simp; done) | (simp; omega) | (dsimp only; omega))
    have hLW1_r := kb_r.lt
    try clear kc_r kf_r
    clear hW
    refine (HSp.out _).mono ?_
    rintro e w1 ⟨A1, c1, rfl, ho1, hb⟩
    replace hB := hB.trans (Below.mono hb hB.size)
    have hz_w1 : W1.heap.size ≤ w1.heap.size := Below.size hb
    replace kb_r := Blk.below kb_r hb (by first | exact kb_r.lt | (have := kb_r.lt; omega))
    have kc_r := kb_r.cells
    have kf_r := kb_r.frozens
    have hl_r := kb_r.lt
    have hn_r := Nat.ne_of_lt kb_r.lt
    clear hb
    go_wp2_with fail
    exact bodyPost_ret (v := .tuple #[.agg #[.int .i64 0, .int .i64 0, .int .i64 0], .bool false]) (by simp [results, Tryd.results39, go_sem, kc_r, hl_r, hn_r]) rfl ⟨by rw [HN.out.1, HN.out.2], by repeat' (first | (with_reducible exact Below.refl _ _) | (with_reducible assumption) | (with_reducible refine Below.alloc ?_ ?_ _) | (with_reducible refine Below.setCell ?_ ?_ _) | (with_reducible refine Below.drew ?_) | (with_reducible refine below_drewN ?_ _) | (refine Below.trans ?_ (Below.mono (by with_reducible assumption) ?_)) | omega | (simp; done) | (simp; omega))⟩
  obtain ⟨p0, p1, rfl⟩ : ∃ p0 p1, la = [p0, p1] := by
    match la, h2 with
    | [p0, p1], _ => exact ⟨p0, p1, rfl⟩
  clear h2
  have hp0 : p0.length ≤ 1048576 := by have := spl_len 58 t [] p0 (by show p0 ∈ rsA t; rw [← HLA.out]; simp); simp at this; omega
  have hp1 : p1.length ≤ 1048576 := by have := spl_len 58 t [] p1 (by show p1 ∈ rsA t; rw [← HLA.out]; simp); simp at this; omega
  obtain ⟨lb, hlb⟩ : ∃ lb, lb = rsB t := ⟨_, rfl⟩
  have hlb2 : lb = spl 47 [] p1 := by rw [hlb]; unfold rsB; rw [← HLA.out]; rfl
  have HS2 : Hid (∀ W, Calls Tryd.prog 38 #[sv p1, .int .u8 47] W fun e w' => ∃ A' c', e = .returned (.slice A' lb.length c') ∧ OwnSt w' W.heap.size A' c' lb ∧ Below W.heap.size W w') := fun W => by rw [hlb2]; exact l35Split_any p1 47 47 rfl W hp1
  have HLB := Lib.hid hlb
  have hne : lb ≠ [] := by rw [hlb2]; exact spl_ne _ _ _
  have HLEN : Hid (∀ x ∈ lb, x.length ≤ 9223372036854775807) := fun x hx => by rw [hlb2] at hx; have := spl_len 47 p1 [] x hx; simp at this; omega
  clear hlb hlb2
  go_enter Tryd.func39, Tryd.ntmps39
  go_wp2_with fail
  first | refine name_world ?_ | refine name_wp ?_
  intro W1 hW
  replace hB : Below w.heap.size w W1 := by rw [hW]; repeat' (first | (with_reducible exact Below.refl _ _) | (with_reducible assumption) | (with_reducible refine Below.alloc ?_ ?_ _) | (with_reducible refine Below.setCell ?_ ?_ _) | (with_reducible refine Below.drew ?_) | (with_reducible refine below_drewN ?_ _) | (refine Below.trans ?_ (Below.mono (by with_reducible assumption) ?_)) | omega | (simp; done) | (simp; omega))
  have hz_W1 : w.heap.size ≤ W1.heap.size := by rw [hW]; first | (simp; done) | (simp; omega)
  replace kb_r : Blk W1 (w.heap.size) 67 #[.int .i64 0, .int .i64 0, .int .i64 0] := by rw [hW]; repeat' (first | (with_reducible assumption) | (with_reducible refine Blk.drew ?_) | (with_reducible refine Blk.drewN ?_ _) | (with_reducible refine Blk.new' _ _ _ _ ?_; (first | rfl | omega | (simp; done))) | (with_reducible exact Blk.new _ _ _) | (with_reducible refine Blk.alloc ?_ _) | (with_reducible apply Blk.set8) | (with_reducible apply Blk.set7of8) | (with_reducible apply Blk.setlast8) | (with_reducible apply Blk.set7) | (with_reducible apply Blk.set2) | (with_reducible apply Blk.set3) | (with_reducible refine Blk.far ?_ ?_ _) | (simp; done) | (simp; omega) | (dsimp only; omega))
  have hLW1_r := kb_r.lt
  try clear kc_r kf_r
  clear hW
  refine (HSp.out _).mono ?_
  rintro e w1 ⟨A1, c1, rfl, ho1, hb⟩
  replace hB := hB.trans (Below.mono hb hB.size)
  have hz_w1 : W1.heap.size ≤ w1.heap.size := Below.size hb
  replace kb_r := Blk.below kb_r hb (by first | exact kb_r.lt | (have := kb_r.lt; omega))
  have kc_r := kb_r.cells
  have kf_r := kb_r.frozens
  have hl_r := kb_r.lt
  have hn_r := Nat.ne_of_lt kb_r.lt
  clear hb
  obtain ⟨b1, s1, rfl, hbb1, hc1⟩ := (OwnSt.rd ho1).at_ (k := 0) (by simp)
  have k0 := hc1 0 p0 rfl
  have k1 := hc1 1 p1 rfl
  have hcap1 := (OwnSt.rd ho1).2.1
  clear hc1
  have k0' : w1.cell? ⟨b1, s1, none⟩ = some (sv p0) := by simpa using k0
  clear k0
  go_wp2_with fail
  refine (HS2.out _).mono ?_
  rintro e w2 ⟨A2, c2, rfl, ho2, hb⟩
  have hbb2 : b1 < w2.heap.size := by have := hb.size; omega
  have k2 : w2.cell? ⟨b1, s1, none⟩ = some (sv p0) := (hb.cell (p := ⟨b1, s1, none⟩) hbb1).trans k0'
  replace hB := hB.trans (Below.mono hb hB.size)
  have hz_w2 : w1.heap.size ≤ w2.heap.size := Below.size hb
  replace kb_r := Blk.below kb_r hb (by first | exact kb_r.lt | (have := kb_r.lt; omega))
  have kc_r := kb_r.cells
  have kf_r := kb_r.frozens
  have hl_r := kb_r.lt
  have hn_r := Nat.ne_of_lt kb_r.lt
  clear hb
  have hl0 : 0 < lb.length := List.length_pos_iff.2 hne
  obtain ⟨b2, s2, rfl, hbb3, hc2⟩ := (OwnSt.rd ho2).at_ (k := 0) hl0
  have hcap2 := (OwnSt.rd ho2).2.1
  obtain ⟨q0, hq0⟩ : ∃ q0, lb[0]? = some q0 := ⟨_, List.getElem?_eq_getElem hl0⟩
  have m0' : w2.cell? ⟨b2, s2, none⟩ = some (sv q0) := by simpa using hc2 0 q0 hq0
  have hlq0 := HLEN.out q0 (List.mem_of_getElem? hq0)
  obtain ⟨n1, o1, h1⟩ : ∃ n1 o1, n1 = puVal p0 ∧ o1 = puOk p0 := ⟨_, _, rfl, rfl⟩
  obtain ⟨n2, o2, h2⟩ : ∃ n1 o1, n1 = puVal q0 ∧ o1 = puOk q0 := ⟨_, _, rfl, rfl⟩
  have P1 := Lib.hid (fun W (h : Tab W) => ParseUintS_any p0 W h (by omega))
  have P2 := Lib.hid (fun W (h : Tab W) => ParseUintS_any q0 W h hlq0)
  rw [← h1.1, ← h1.2] at P1
  rw [← h2.1, ← h2.2] at P2
  have hA0 : (rsA t).getD 0 [] = p0 := by rw [← HLA.out]; rfl
  have hB0 : (rsB t).getD 0 [] = q0 := by rw [← HLB.out, List.getD_eq_getElem?_getD, hq0]; rfl
  have hA2 : (rsA t).length = 2 := by rw [← HLA.out]; rfl
  have HR0 : Hid (rsI t = ((o1 && o2 && (rsLast t).2) && decide (rightText n1 n2 (rsLast t).1 = t))) := by
    show _ = _
    unfold rsI
    rw [hA0, hB0, hA2, decide_eq_true (show t.length ≤ 20 by omega), ← h1.1, ← h1.2, ← h2.1, ← h2.2]
    simp
  have HX0 : Hid (rsI t = true → rsX t = ⟨n1, n2, (rsLast t).1⟩) := fun h => by
    unfold rsX
    rw [if_pos h, hA0, hB0, ← h1.1, ← h2.1]
  have HL0 : Hid (rsLast t = if lb.length = 2 then (puVal (lb.getD 1 []), puOk (lb.getD 1 [])) else (1, decide (lb.length = 1))) := by show _ = _; unfold rsLast; rw [← HLB.out]
  have HC2 := Lib.hid hc2
  clear h1 h2 hA0 hB0 hA2 ho1 ho2 k0' hq0 hc2
  by_cases hL2 : lb.length = 2
  · obtain ⟨q1, hq1⟩ : ∃ q1, lb[1]? = some q1 := ⟨_, List.getElem?_eq_getElem (show 1 < lb.length by omega)⟩
    have m1' : w2.cell? ⟨b2, s2 + 1, none⟩ = some (sv q1) := HC2.out 1 q1 hq1
    have hlq1 := HLEN.out q1 (List.mem_of_getElem? hq1)
    obtain ⟨n3, o3, h3⟩ : ∃ n1 o1, n1 = puVal q1 ∧ o1 = puOk q1 := ⟨_, _, rfl, rfl⟩
    have P3 := Lib.hid (fun W (h : Tab W) => ParseUintS_any q1 W h hlq1)
    rw [← h3.1, ← h3.2] at P3
    have hla3 : rsLast t = (n3, o3) := by rw [HL0.out, if_pos hL2, List.getD_eq_getElem?_getD, hq1, h3.1, h3.2]; rfl
    have HR : Hid (rsI t = ((o1 && o2 && o3) && decide (rightText n1 n2 n3 = t))) := by show _ = _; rw [HR0.out, hla3]
    have HX : Hid (rsI t = true → rsX t = ⟨n1, n2, n3⟩) := fun h => by rw [HX0.out h, hla3]
    have l1 : ((lb.length : Int) == 1) = false := by simp; omega
    have l2 : ((lb.length : Int) == 2) = true := by simp; omega
    have i1 : (1 : Int) < (lb.length : Int) := by omega
    have i0 : (0 : Int) < (lb.length : Int) := by omega
    clear HR0 HX0 HL0 hla3 h3 hq1
    go_wp2_with fail
    refine (P1.out _ (ht.below hB)).mono ?_
    rintro e w3 ⟨rfl, hb⟩
    have m0'' : w3.cell? ⟨b2, s2, none⟩ = some (sv q0) := (hb.cell (p := ⟨b2, s2, none⟩) hbb3).trans m0'
    have m1'' : w3.cell? ⟨b2, s2 + 1, none⟩ = some (sv q1) := (hb.cell (p := ⟨b2, s2 + 1, none⟩) hbb3).trans m1'
    have hbb4 : b2 < w3.heap.size := by have := hb.size; omega
    replace hB := hB.trans (Below.mono hb hB.size)
    have hz_w3 : w2.heap.size ≤ w3.heap.size := Below.size hb
    replace kb_r := Blk.below kb_r hb (by first | exact kb_r.lt | (have := kb_r.lt; omega))
    have kc_r := kb_r.cells
    have kf_r := kb_r.frozens
    have hl_r := kb_r.lt
    have hn_r := Nat.ne_of_lt kb_r.lt
    clear hb
    go_wp2_with fail
    refine (P2.out _ (ht.below hB)).mono ?_
    rintro e w4 ⟨rfl, hb⟩
    have m1q : w4.cell? ⟨b2, s2 + 1, none⟩ = some (sv q1) := (hb.cell (p := ⟨b2, s2 + 1, none⟩) hbb4).trans m1''
    replace hB := hB.trans (Below.mono hb hB.size)
    have hz_w4 : w3.heap.size ≤ w4.heap.size := Below.size hb
    replace kb_r := Blk.below kb_r hb (by first | exact kb_r.lt | (have := kb_r.lt; omega))
    have kc_r := kb_r.cells
    have kf_r := kb_r.frozens
    have hl_r := kb_r.lt
    have hn_r := Nat.ne_of_lt kb_r.lt
    clear hb
    go_wp2_with fail
    refine (P3.out _ (ht.below hB)).mono ?_
    rintro e w5 ⟨rfl, hb⟩
    replace hB := hB.trans (Below.mono hb hB.size)
    have hz_w5 : w4.heap.size ≤ w5.heap.size := Below.size hb
    replace kb_r := Blk.below kb_r hb (by first | exact kb_r.lt | (have := kb_r.lt; omega))
    have kc_r := kb_r.cells
    have kf_r := kb_r.frozens
    have hl_r := kb_r.lt
    have hn_r := Nat.ne_of_lt kb_r.lt
    clear hb
    cases o1
    · have HN := Lib.hid (rsX_no (t := t) (by rw [HR.out]; simp))
      go_wp2_with fail
      exact bodyPost_ret (v := .tuple #[.agg #[.int .i64 0, .int .i64 0, .int .i64 0], .bool false]) (by simp [results, Tryd.results39, go_sem, kc_r, hl_r, hn_r]) rfl ⟨by rw [HN.out.1, HN.out.2], by repeat' (first | (with_reducible exact Below.refl _ _) | (with_reducible assumption) | (with_reducible refine Below.alloc ?_ ?_ _) | (with_reducible refine Below.setCell ?_ ?_ _) | (with_reducible refine Below.drew ?_) | (with_reducible refine below_drewN ?_ _) | (refine Below.trans ?_ (Below.mono (by with_reducible assumption) ?_)) | omega | (simp; done) | (simp; omega))⟩
    cases o2
    · have HN := Lib.hid (rsX_no (t := t) (by rw [HR.out]; simp))
      go_wp2_with fail
      exact bodyPost_ret (v := .tuple #[.agg #[.int .i64 0, .int .i64 0, .int .i64 0], .bool false]) (by simp [results, Tryd.results39, go_sem, kc_r, hl_r, hn_r]) rfl ⟨by rw [HN.out.1, HN.out.2], by repeat' (first | (with_reducible exact Below.refl _ _) | (with_reducible assumption) | (with_reducible refine Below.alloc ?_ ?_ _) | (with_reducible refine Below.setCell ?_ ?_ _) | (with_reducible refine Below.drew ?_) | (with_reducible refine below_drewN ?_ _) | (refine Below.trans ?_ (Below.mono (by with_reducible assumption) ?_)) | omega | (simp; done) | (simp; omega))⟩
    cases o3
    · have HN := Lib.hid (rsX_no (t := t) (by rw [HR.out]; simp))
      go_wp2_with fail
      exact bodyPost_ret (v := .tuple #[.agg #[.int .i64 0, .int .i64 0, .int .i64 0], .bool false]) (by simp [results, Tryd.results39, go_sem, kc_r, hl_r, hn_r]) rfl ⟨by rw [HN.out.1, HN.out.2], by repeat' (first | (with_reducible exact Below.refl _ _) | (with_reducible assumption) | (with_reducible refine Below.alloc ?_ ?_ _) | (with_reducible refine Below.setCell ?_ ?_ _) | (with_reducible refine Below.drew ?_) | (with_reducible refine below_drewN ?_ _) | (refine Below.trans ?_ (Below.mono (by with_reducible assumption) ?_)) | omega | (simp; done) | (simp; omega))⟩
    have HF := Lib.hid (fun W (h : Tab W) => RightTextS_any n1 n2 n3 W h)
    obtain ⟨tx, htx⟩ : ∃ tx, tx = rightText n1 n2 n3 := ⟨_, rfl⟩
    rw [← htx] at HF HR
    clear htx
    by_cases hq : tx = t
    · have HN : Hid (rsI t = true) := by show _ = _; rw [HR.out, decide_eq_true hq]; rfl
      have HXN := Lib.hid (HX.out HN.out)
      rw [hq] at HF
      clear hq HR HX
      go_wp2_with fail
      first | refine name_world ?_ | refine name_wp ?_
      intro W6 hW
      replace hB : Below w.heap.size w W6 := by rw [hW]; repeat' (first | (with_reducible exact Below.refl _ _) | (with_reducible assumption) | (with_reducible refine Below.alloc ?_ ?_ _) | (with_reducible refine Below.setCell ?_ ?_ _) | (with_reducible refine Below.drew ?_) | (with_reducible refine below_drewN ?_ _) | (refine Below.trans ?_ (Below.mono (by with_reducible assumption) ?_)) | omega | (simp; done) | (simp; omega))
      have hz_W6 : w5.heap.size ≤ W6.heap.size := by rw [hW]; first | (simp; done) | (simp; omega)
      replace kb_r : Blk W6 (w.heap.size) 67 #[.int .i64 0, .int .i64 0, .int .i64 0] := by rw [hW]; repeat' (first | (with_reducible assumption) | (with_reducible refine Blk.drew ?_) | (with_reducible refine Blk.drewN ?_ _) | (with_reducible refine Blk.new' _ _ _ _ ?_; (first | rfl | omega | (simp; done))) | (with_reducible exact Blk.new _ _ _) | (with_reducible refine Blk.alloc ?_ _) | (with_reducible apply Blk.set8) | (with_reducible apply Blk.set7of8) | (with_reducible apply Blk.setlast8) | (with_reducible apply Blk.set7) | (with_reducible apply Blk.set2) | (with_reducible apply Blk.set3) | (with_reducible refine Blk.far ?_ ?_ _) | (simp; done) | (simp; omega) | (dsimp only; omega))
      have hLW6_r := kb_r.lt
      replace kb_s : Blk W6 (w5.heap.size) 67 #[.int .i64 n1, .int .i64 n2, .int .i64 n3] := by rw [hW]; repeat' (first | (with_reducible assumption) | (with_reducible refine Blk.drew ?_) | (with_reducible refine Blk.drewN ?_ _) | (with_reducible refine Blk.new' _ _ _ _ ?_; (first | rfl | omega | (simp; done))) | (with_reducible exact Blk.new _ _ _) | (with_reducible refine Blk.alloc ?_ _) | (with_reducible apply Blk.set8) | (with_reducible apply Blk.set7of8) | (with_reducible apply Blk.setlast8) | (with_reducible apply Blk.set7) | (with_reducible apply Blk.set2) | (with_reducible apply Blk.set3) | (with_reducible refine Blk.far ?_ ?_ _) | (simp; done) | (simp; omega) | (dsimp only; omega))
      have hLW6_s := kb_s.lt
      try clear kc_r kf_r
      try clear kc_s kf_s
      clear hW
      refine (HF.out _ (ht.below hB)).mono ?_
      rintro e w7 ⟨rfl, hb⟩
      replace hB := hB.trans (Below.mono hb hB.size)
      have hz_w7 : W6.heap.size ≤ w7.heap.size := Below.size hb
      replace kb_r := Blk.below kb_r hb (by first | exact kb_r.lt | (have := kb_r.lt; omega))
      have kc_r := kb_r.cells
      have kf_r := kb_r.frozens
      have hl_r := kb_r.lt
      have hn_r := Nat.ne_of_lt kb_r.lt
      replace kb_s := Blk.below kb_s hb (by first | exact kb_s.lt | (have := kb_s.lt; omega))
      have kc_s := kb_s.cells
      have kf_s := kb_s.frozens
      have hl_s := kb_s.lt
      have hn_s := Nat.ne_of_lt kb_s.lt
      clear hb
      go_wp2_with fail
      exact bodyPost_ret (v := .tuple #[.agg #[.int .i64 n1, .int .i64 n2, .int .i64 n3], .bool true]) (by simp [results, Tryd.results39, go_sem, kc_r, kc_s, hl_r, hn_r, hl_s, hn_s]) rfl ⟨by rw [HXN.out, HN.out], by repeat' (first | (with_reducible exact Below.refl _ _) | (with_reducible assumption) | (with_reducible refine Below.alloc ?_ ?_ _) | (with_reducible refine Below.setCell ?_ ?_ _) | (with_reducible refine Below.drew ?_) | (with_reducible refine below_drewN ?_ _) | (refine Below.trans ?_ (Below.mono (by with_reducible assumption) ?_)) | omega | (simp; done) | (simp; omega))⟩
    · have HN := Lib.hid (rsX_no (t := t) (by rw [HR.out, decide_eq_false hq]; simp))
      have e4 : (tx == t) = false := by simpa using hq
      clear HR HX
      go_wp2_with fail
      first | refine name_world ?_ | refine name_wp ?_
      intro W6 hW
      replace hB : Below w.heap.size w W6 := by rw [hW]; repeat' (first | (with_reducible exact Below.refl _ _) | (with_reducible assumption) | (with_reducible refine Below.alloc ?_ ?_ _) | (with_reducible refine Below.setCell ?_ ?_ _) | (with_reducible refine Below.drew ?_) | (with_reducible refine below_drewN ?_ _) | (refine Below.trans ?_ (Below.mono (by with_reducible assumption) ?_)) | omega | (simp; done) | (simp; omega))
      have hz_W6 : w5.heap.size ≤ W6.heap.size := by rw [hW]; first | (simp; done) | (simp; omega)
      replace kb_r : Blk W6 (w.heap.size) 67 #[.int .i64 0, .int .i64 0, .int .i64 0] := by rw [hW]; repeat' (first | (with_reducible assumption) | (with_reducible refine Blk.drew ?_) | (with_reducible refine Blk.drewN ?_ _) | (with_reducible refine Blk.new' _ _ _ _ ?_; (first | rfl | omega | (simp; done))) | (with_reducible exact Blk.new _ _ _) | (with_reducible refine Blk.alloc ?_ _) | (with_reducible apply Blk.set8) | (with_reducible apply Blk.set7of8) | (with_reducible apply Blk.setlast8) | (with_reducible apply Blk.set7) | (with_reducible apply Blk.set2) | (with_reducible apply Blk.set3) | (with_reducible refine Blk.far ?_ ?_ _) | (simp; done) | (simp; omega) | (dsimp only; omega))
      have hLW6_r := kb_r.lt
      replace kb_s : Blk W6 (w5.heap.size) 67 #[.int .i64 n1, .int .i64 n2, .int .i64 n3] := by rw [hW]; repeat' (first | (with_reducible assumption) | (with_reducible refine Blk.drew ?_) | (with_reducible refine Blk.drewN ?_ _) | (with_reducible refine Blk.new' _ _ _ _ ?_; (first | rfl | omega | (simp; done))) | (with_reducible exact Blk.new _ _ _) | (with_reducible refine Blk.alloc ?_ _) | (with_reducible apply Blk.set8) | (with_reducible apply Blk.set7of8) | (with_reducible apply Blk.setlast8) | (with_reducible apply Blk.set7) | (with_reducible apply Blk.set2) | (with_reducible apply Blk.set3) | (with_reducible refine Blk.far ?_ ?_ _) | (simp; done) | (simp; omega) | (dsimp only; omega))
      have hLW6_s := kb_s.lt
      try clear kc_r kf_r
      try clear kc_s kf_s
      clear hW
      refine (HF.out _ (ht.below hB)).mono ?_
      rintro e w7 ⟨rfl, hb⟩
      replace hB := hB.trans (Below.mono hb hB.size)
      have hz_w7 : W6.heap.size ≤ w7.heap.size := Below.size hb
      replace kb_r := Blk.below kb_r hb (by first | exact kb_r.lt | (have := kb_r.lt; omega))
      have kc_r := kb_r.cells
      have kf_r := kb_r.frozens
      have hl_r := kb_r.lt
      have hn_r := Nat.ne_of_lt kb_r.lt
      replace kb_s := Blk.below kb_s hb (by first | exact kb_s.lt | (have := kb_s.lt; omega))
      have kc_s := kb_s.cells
      have kf_s := kb_s.frozens
      have hl_s := kb_s.lt
      have hn_s := Nat.ne_of_lt kb_s.lt
      clear hb
      go_wp2_with fail
      exact bodyPost_ret (v := .tuple #[.agg #[.int .i64 0, .int .i64 0, .int .i64 0], .bool false]) (by simp [results, Tryd.results39, go_sem, kc_r, kc_s, hl_r, hn_r, hl_s, hn_s]) rfl ⟨by rw [HN.out.1, HN.out.2], by repeat' (first | (with_reducible exact Below.refl _ _) | (with_reducible assumption) | (with_reducible refine Below.alloc ?_ ?_ _) | (with_reducible refine Below.setCell ?_ ?_ _) | (with_reducible refine Below.drew ?_) | (with_reducible refine below_drewN ?_ _) | (refine Below.trans ?_ (Below.mono (by with_reducible assumption) ?_)) | omega | (simp; done) | (simp; omega))⟩
  · obtain ⟨o3, ho3⟩ : ∃ o3, o3 = decide (lb.length = 1) := ⟨_, rfl⟩
    have hla3 : rsLast t = (1, o3) := by rw [HL0.out, if_neg hL2, ho3]
    have HR : Hid (rsI t = ((o1 && o2 && o3) && decide (rightText n1 n2 1 = t))) := by show _ = _; rw [HR0.out, hla3]; rfl
    have HX : Hid (rsI t = true → rsX t = ⟨n1, n2, 1⟩) := fun h => by rw [HX0.out h, hla3]; rfl
    have l1 : ((lb.length : Int) == 1) = o3 := by rw [ho3]; by_cases h9 : lb.length = 1 <;> simp [h9]; omega
    have l2 : ((lb.length : Int) == 2) = false := by simp; omega
    have i0 : (0 : Int) < (lb.length : Int) := by omega
    clear HR0 HX0 HL0 hla3 ho3
    go_wp2_with fail
    refine (P1.out _ (ht.below hB)).mono ?_
    rintro e w3 ⟨rfl, hb⟩
    have m0'' : w3.cell? ⟨b2, s2, none⟩ = some (sv q0) := (hb.cell (p := ⟨b2, s2, none⟩) hbb3).trans m0'
    replace hB := hB.trans (Below.mono hb hB.size)
    have hz_w3 : w2.heap.size ≤ w3.heap.size := Below.size hb
    replace kb_r := Blk.below kb_r hb (by first | exact kb_r.lt | (have := kb_r.lt; omega))
    have kc_r := kb_r.cells
    have kf_r := kb_r.frozens
    have hl_r := kb_r.lt
    have hn_r := Nat.ne_of_lt kb_r.lt
    clear hb
    go_wp2_with fail
    refine (P2.out _ (ht.below hB)).mono ?_
    rintro e w5 ⟨rfl, hb⟩
    replace hB := hB.trans (Below.mono hb hB.size)
    have hz_w5 : w3.heap.size ≤ w5.heap.size := Below.size hb
    replace kb_r := Blk.below kb_r hb (by first | exact kb_r.lt | (have := kb_r.lt; omega))
    have kc_r := kb_r.cells
    have kf_r := kb_r.frozens
    have hl_r := kb_r.lt
    have hn_r := Nat.ne_of_lt kb_r.lt
    clear hb
    cases o1
    · have HN := Lib.hid (rsX_no (t := t) (by rw [HR.out]; simp))
      go_wp2_with fail
      exact bodyPost_ret (v := .tuple #[.agg #[.int .i64 0, .int .i64 0, .int .i64 0], .bool false]) (by simp [results, Tryd.results39, go_sem, kc_r, hl_r, hn_r]) rfl ⟨by rw [HN.out.1, HN.out.2], by repeat' (first | (with_reducible exact Below.refl _ _) | (with_reducible assumption) | (with_reducible refine Below.alloc ?_ ?_ _) | (with_reducible refine Below.setCell ?_ ?_ _) | (with_reducible refine Below.drew ?_) | (with_reducible refine below_drewN ?_ _) | (refine Below.trans ?_ (Below.mono (by with_reducible assumption) ?_)) | omega | (simp; done) | (simp; omega))⟩
    cases o2
    · have HN := Lib.hid (rsX_no (t := t) (by rw [HR.out]; simp))
      go_wp2_with fail
      exact bodyPost_ret (v := .tuple #[.agg #[.int .i64 0, .int .i64 0, .int .i64 0], .bool false]) (by simp [results, Tryd.results39, go_sem, kc_r, hl_r, hn_r]) rfl ⟨by rw [HN.out.1, HN.out.2], by repeat' (first | (with_reducible exact Below.refl _ _) | (with_reducible assumption) | (with_reducible refine Below.alloc ?_ ?_ _) | (with_reducible refine Below.setCell ?_ ?_ _) | (with_reducible refine Below.drew ?_) | (with_reducible refine below_drewN ?_ _) | (refine Below.trans ?_ (Below.mono (by with_reducible assumption) ?_)) | omega | (simp; done) | (simp; omega))⟩
    cases o3
    · have HN := Lib.hid (rsX_no (t := t) (by rw [HR.out]; simp))
      go_wp2_with fail
      exact bodyPost_ret (v := .tuple #[.agg #[.int .i64 0, .int .i64 0, .int .i64 0], .bool false]) (by simp [results, Tryd.results39, go_sem, kc_r, hl_r, hn_r]) rfl ⟨by rw [HN.out.1, HN.out.2], by repeat' (first | (with_reducible exact Below.refl _ _) | (with_reducible assumption) | (with_reducible refine Below.alloc ?_ ?_ _) | (with_reducible refine Below.setCell ?_ ?_ _) | (with_reducible refine Below.drew ?_) | (with_reducible refine below_drewN ?_ _) | (refine Below.trans ?_ (Below.mono (by with_reducible assumption) ?_)) | omega | (simp; done) | (simp; omega))⟩
    have HF := Lib.hid (fun W (h : Tab W) => RightTextS_any n1 n2 1 W h)
    obtain ⟨tx, htx⟩ : ∃ tx, tx = rightText n1 n2 1 := ⟨_, rfl⟩
    rw [← htx] at HF HR
    clear htx
    by_cases hq : tx = t
    · have HN : Hid (rsI t = true) := by show _ = _; rw [HR.out, decide_eq_true hq]; rfl
      have HXN := Lib.hid (HX.out HN.out)
      rw [hq] at HF
      clear hq HR HX
      go_wp2_with fail
      first | refine name_world ?_ | refine name_wp ?_
      intro W6 hW
      replace hB : Below w.heap.size w W6 := by rw [hW]; repeat' (first | (with_reducible exact Below.refl _ _) | (with_reducible assumption) | (with_reducible refine Below.alloc ?_ ?_ _) | (with_reducible refine Below.setCell ?_ ?_ _) | (with_reducible refine Below.drew ?_) | (with_reducible refine below_drewN ?_ _) | (refine Below.trans ?_ (Below.mono (by with_reducible assumption) ?_)) | omega | (simp; done) | (simp; omega))
      have hz_W6 : w5.heap.size ≤ W6.heap.size := by rw [hW]; first | (simp; done) | (simp; omega)
      replace kb_r : Blk W6 (w.heap.size) 67 #[.int .i64 0, .int .i64 0, .int .i64 0] := by rw [hW]; repeat' (first | (with_reducible assumption) | (with_reducible refine Blk.drew ?_) | (with_reducible refine Blk.drewN ?_ _) | (with_reducible refine Blk.new' _ _ _ _ ?_; (first | rfl | omega | (simp; done))) | (with_reducible exact Blk.new _ _ _) | (with_reducible refine Blk.alloc ?_ _) | (with_reducible apply Blk.set8) | (with_reducible apply Blk.set7of8) | (with_reducible apply Blk.setlast8) | (with_reducible apply Blk.set7) | (with_reducible apply Blk.set2) | (with_reducible apply Blk.set3) | (with_reducible refine Blk.far ?_ ?_ _) | (simp; done) | (simp; omega) | (dsimp only; omega))
      have hLW6_r := kb_r.lt
      replace kb_s : Blk W6 (w5.heap.size) 67 #[.int .i64 n1, .int .i64 n2, .int .i64 1] := by rw [hW]; repeat' (first | (with_reducible assumption) | (with_reducible refine Blk.drew ?_) | (with_reducible refine Blk.drewN ?_ _) | (with_reducible refine Blk.new' _ _ _ _ ?_; (first | rfl | omega | (simp; done))) | (with_reducible exact Blk.new _ _ _) | (with_reducible refine Blk.alloc ?_ _) | (with_reducible apply Blk.set8) | (with_reducible apply Blk.set7of8) | (with_reducible apply Blk.setlast8) | (with_reducible apply Blk.set7) | (with_reducible apply Blk.set2) | (with_reducible apply Blk.set3) | (with_reducible refine Blk.far ?_ ?_ _) | (simp; done) | (simp; omega) | (dsimp only; omega))
      have hLW6_s := kb_s.lt
      try clear kc_r kf_r
      try clear kc_s kf_s
      clear hW
      refine (HF.out _ (ht.below hB)).mono ?_
      rintro e w7 ⟨rfl, hb⟩
      replace hB := hB.trans (Below.mono hb hB.size)
      have hz_w7 : W6.heap.size ≤ w7.heap.size := Below.size hb
      replace kb_r := Blk.below kb_r hb (by first | exact kb_r.lt | (have := kb_r.lt; omega))
      have kc_r := kb_r.cells
      have kf_r := kb_r.frozens
      have hl_r := kb_r.lt
      have hn_r := Nat.ne_of_lt kb_r.lt
      replace kb_s := Blk.below kb_s hb (by first | exact kb_s.lt | (have := kb_s.lt; omega))
      have kc_s := kb_s.cells
      have kf_s := kb_s.frozens
      have hl_s := kb_s.lt
      have hn_s := Nat.ne_of_lt kb_s.lt
      clear hb
      go_wp2_with fail
      exact bodyPost_ret (v := .tuple #[.agg #[.int .i64 n1, .int .i64 n2, .int .i64 1], .bool true]) (by simp [results, Tryd.results39, go_sem, kc_r, kc_s, hl_r, hn_r, hl_s, hn_s]) rfl ⟨by rw [HXN.out, HN.out], by repeat' (first | (with_reducible exact Below.refl _ _) | (with_reducible assumption) | (with_reducible refine Below.alloc ?_ ?_ _) | (with_reducible refine Below.setCell ?_ ?_ _) | (with_reducible refine Below.drew ?_) | (with_reducible refine below_drewN ?_ _) | (refine Below.trans ?_ (Below.mono (by with_reducible assumption) ?_)) | omega | (simp; done) | (simp; omega))⟩
    · have HN := Lib.hid (rsX_no (t := t) (by rw [HR.out, decide_eq_false hq]; simp))
      have e4 : (tx == t) = false := by simpa using hq
      clear HR HX
      go_wp2_with fail
      first | refine name_world ?_ | refine name_wp ?_
      intro W6 hW
      replace hB : Below w.heap.size w W6 := by rw [hW]; repeat' (first | (with_reducible exact Below.refl _ _) | (with_reducible assumption) | (with_reducible refine Below.alloc ?_ ?_ _) | (with_reducible refine Below.setCell ?_ ?_ _) | (with_reducible refine Below.drew ?_) | (with_reducible refine below_drewN ?_ _) | (refine Below.trans ?_ (Below.mono (by with_reducible assumption) ?_)) | omega | (simp; done) | (simp; omega))
      have hz_W6 : w5.heap.size ≤ W6.heap.size := by rw [hW]; first | (simp; done) | (simp; omega)
      replace kb_r : Blk W6 (w.heap.size) 67 #[.int .i64 0, .int .i64 0, .int .i64 0] := by rw [hW]; repeat' (first | (with_reducible assumption) | (with_reducible refine Blk.drew ?_) | (with_reducible refine Blk.drewN ?_ _) | (with_reducible refine Blk.new' _ _ _ _ ?_; (first | rfl | omega | (simp; done))) | (with_reducible exact Blk.new _ _ _) | (with_reducible refine Blk.alloc ?_ _) | (with_reducible apply Blk.set8) | (with_reducible apply Blk.set7of8) | (with_reducible apply Blk.setlast8) | (with_reducible apply Blk.set7) | (with_reducible apply Blk.set2) | (with_reducible apply Blk.set3) | (with_reducible refine Blk.far ?_ ?_ _) | (simp; done) | (simp; omega) | (dsimp only; omega))
      have hLW6_r := kb_r.lt
      replace kb_s : Blk W6 (w5.heap.size) 67 #[.int .i64 n1, .int .i64 n2, .int .i64 1] := by rw [hW]; repeat' (first | (with_reducible assumption) | (with_reducible refine Blk.drew ?_) | (with_reducible refine Blk.drewN ?_ _) | (with_reducible refine Blk.new' _ _ _ _ ?_; (first | rfl | omega | (simp; done))) | (with_reducible exact Blk.new _ _ _) | (with_reducible refine Blk.alloc ?_ _) | (with_reducible apply Blk.set8) | (with_reducible apply Blk.set7of8) | (with_reducible apply Blk.setlast8) | (with_reducible apply Blk.set7) | (with_reducible apply Blk.set2) | (with_reducible apply Blk.set3) | (with_reducible refine Blk.far ?_ ?_ _) | (simp; done) | (simp; omega) | (dsimp only; omega))
      have hLW6_s := kb_s.lt
      try clear kc_r kf_r
      try clear kc_s kf_s
      clear hW
      refine (HF.out _ (ht.below hB)).mono ?_
      rintro e w7 ⟨rfl, hb⟩
      replace hB := hB.trans (Below.mono hb hB.size)
      have hz_w7 : W6.heap.size ≤ w7.heap.size := Below.size hb
      replace kb_r := Blk.below kb_r hb (by first | exact kb_r.lt | (have := kb_r.lt; omega))
      have kc_r := kb_r.cells
      have kf_r := kb_r.frozens
      have hl_r := kb_r.lt
      have hn_r := Nat.ne_of_lt kb_r.lt
      replace kb_s := Blk.below kb_s hb (by first | exact kb_s.lt | (have := kb_s.lt; omega))
      have kc_s := kb_s.cells
      have kf_s := kb_s.frozens
      have hl_s := kb_s.lt
      have hn_s := Nat.ne_of_lt kb_s.lt
      clear hb
      go_wp2_with fail
      exact bodyPost_ret (v := .tuple #[.agg #[.int .i64 0, .int .i64 0, .int .i64 0], .bool false]) (by simp [results, Tryd.results39, go_sem, kc_r, kc_s, hl_r, hn_r, hl_s, hn_s]) rfl ⟨by rw [HN.out.1, HN.out.2], by repeat' (first | (with_reducible exact Below.refl _ _) | (with_reducible assumption) | (with_reducible refine Below.alloc ?_ ?_ _) | (with_reducible refine Below.setCell ?_ ?_ _) | (with_reducible refine Below.drew ?_) | (with_reducible refine below_drewN ?_ _) | (refine Below.trans ?_ (Below.mono (by with_reducible assumption) ?_)) | omega | (simp; done) | (simp; omega))⟩
end Go.Proofs.YtbkgofjajhplpaaDoor
