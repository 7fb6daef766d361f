/- ReadDeed: the reference's side. -/
import Derived.Test.YtbkgofjajhplpaaDoorReadDeed
namespace Go.Proofs.YtbkgofjajhplpaaDoor
set_option linter.unusedSimpArgs false
set_option linter.unusedVariables false
open Go.RowKit
set_option maxRecDepth 20000
theorem spl_count (c : UInt8) : ∀ (s cur : List UInt8), (spl c cur s).length ≤ s.length + 1
  | [], _ => by rw [spl_nil]; simp
  | b :: s, cur => by
    rw [spl]
    split
    · have := spl_count c s []
      simp; omega
    · have := spl_count c s (cur ++ [b])
      simp; omega
theorem blk_keep9 {w w' : World} {base : Nat} {e t : TypeId} {sz n c g : Nat} {A : Option Addr} {xs : List Value} {cs : Array Value} (h : w.ownsRow base e sz (.slice A n c) n xs) (hg : w.grownBy w' (Value.slice A n c).ownBlock) (hne : e ≠ t) (hk : Blk w g t cs) : Blk w' g t cs :=
  hk.grown hg fun he => by
    rcases h.2 with ⟨hn, _⟩ | ⟨b, cap, cur, hv, _, hh, _⟩
    · rw [hn] at he; cases he
    · rw [hv] at he
      simp only [Value.ownBlock, Option.some.injEq] at he
      subst he
      unfold Blk at hk
      rw [hk] at hh
      injection hh with hh
      injection hh with _ ht
      exact hne ht.symm
theorem rd_ret_no2 {t : List UInt8} {w w' : World} {A : Option Addr} (h : rdI t = false) (hb : Below w.heap.size w w') (ho : w'.ownsRow w.heap.size 67 3 (.slice A 0 0) 0 []) : RdRet t w (.returned (.tuple #[.slice A 0 0, .bool false])) w' := by
  have hx := rdX_no h
  refine ⟨A, 0, ?_, ?_, hb⟩
  · rw [hx.1, hx.2]; rfl
  · rw [hx.1]; exact ho
theorem own_blk {w : World} {base c : Nat} {A : Option Addr} {l : List (List UInt8)} (h : OwnSt w base A c l) (h0 : 0 < l.length) :
    ∃ b cur, A = some ⟨b, 0, none⟩ ∧ base ≤ b ∧ Blk w b 9 cur ∧ (∀ (k : Nat) x, l[k]? = some x → cur[k]? = some (sv x)) ∧ l.length ≤ c := by
  rcases h.2 with ⟨_, h2⟩ | ⟨g, cap, cur, hv, hg, hh, hnc, hcm, hcs, ht⟩
  · omega
  · simp only [Value.slice.injEq, true_and] at hv
    obtain ⟨rfl, rfl⟩ := hv
    refine ⟨g, cur, rfl, hg, hh, fun k x hx => ?_, hnc⟩
    have hk : k < l.length := (List.getElem?_eq_some_iff.1 hx).1
    have e : (strs l)[k]? = some (sv x) := by simp [strs, hx]
    rw [← ht, List.getElem?_take, if_pos (by omega)] at e
    simpa using e
set_option maxHeartbeats 6400000 in
theorem ReadDeedS_ret (t : List UInt8) (w0 : World) (ht : Tab w0) (hs : t.length ≤ 1048576) :
    Calls Tryd.prog 9 #[sv t] w0 (RdRet t w0) := by
  have hpl := rdP_ne t
  by_cases hg : 300 < t.length
  · have HN := Lib.hid (rd_long hg)
    have e1 : (300 : Int) < (t.length : Int) := by omega
    have e2 : decide (300 < t.length) = true := decide_eq_true hg
    go_enter Tryd.func9, Tryd.ntmps9
    go_wp2_with fail
    refine bodyPost_ret (v := .tuple #[.slice (some ⟨w0.heap.size, 0, none⟩) 0 0, .bool false]) (by simp [results, Tryd.results9, go_sem]) rfl (rd_ret_no2 HN.out (Below.alloc (Below.refl _ _) (Nat.le_refl _) _) (ownEmpty _ _ _ _ (Nat.le_refl _)))
  have e1 : ¬ (300 : Int) < (t.length : Int) := by omega
  have e2 : decide (300 < t.length) = false := decide_eq_false hg
  have HSp : Hid (∀ W, Calls Tryd.prog 38 #[sv t, .int .u8 32] W fun e w' => ∃ A' c', e = .returned (.slice A' (rdP t).length c') ∧ OwnSt w' W.heap.size A' c' (rdP t) ∧ Below W.heap.size W w') := fun W => l35Split_any t 32 32 rfl W hs
  have HLEN : Hid (∀ x ∈ rdP t, x.length ≤ 1048576) := fun x hx => by have h9 := spl_len 32 t [] x hx; simp at h9; omega
  obtain ⟨ps, hps⟩ : ∃ ps, ps = rdP t := ⟨_, rfl⟩
  rw [← hps] at HSp HLEN hpl
  have HPS := Lib.hid hps
  clear hps hg
  have HO0 := Lib.hid (ownEmpty w0 w0.heap.size 67 3 (Nat.le_refl _))
  have HB0 : Hid (Below w0.heap.size w0 (w0.alloc (.cells #[] 67))) := Below.alloc (Below.refl _ _) (Nat.le_refl _) _
  go_enter Tryd.func9, Tryd.ntmps9
  go_wp2_with fail
  refine (HSp.out _).mono ?_
  rintro e w ⟨A1, c1, rfl, ho1, hb⟩
  obtain ⟨b1, cur, rfl, hb1, kb_p, hc1, hcap⟩ := own_blk ho1 hpl
  have HC1 := Lib.hid hc1
  have HB1 : Hid (Below w0.heap.size w0 w) := HB0.out.trans (hb.mono (by simp))
  have HO1 : Hid (w.ownsRow w0.heap.size 67 3 (.slice (some ⟨w0.heap.size, 0, none⟩) 0 0) 0 []) := own_below HO0.out hb (Nat.le_refl _)
  have hz0 := HB1.out.size
  have hz1 : w0.heap.size < b1 := by simp at hb1; omega
  have hb1lt := kb_p.lt
  clear ho1 hc1 hb hb1 HO0 HB0
  go_wp2_with fail
  go_loopw [4, 6] (fun v i wr => ∃ (k : Nat) (A' : Option Addr) (c' : Nat) (l : List T3), k ≤ ps.length ∧ i = .int .i64 k ∧ v = .slice A' l.length c' ∧ l.length = k ∧ Hid ((∀ y ∈ ps.take k, rrI y = true) ∧ l = (ps.take k).map rrX) ∧ wr.ownsRow w0.heap.size 67 3 (.slice A' l.length c') l.length (t3s l) ∧ Blk wr b1 9 cur ∧ Below w0.heap.size w0 wr) (fun _ i _ => ps.length - (intOf i).toNat)
  case atStart => exact ⟨0, _, 0, [], Nat.zero_le _, rfl, rfl, rfl, ⟨fun y hy => by simp at hy, rfl⟩, HO1.out, kb_p, HB1.out⟩
  case round =>
    clear HO1 kb_p
    obtain ⟨k, A', c', l, hk, rfl, rfl, hlk, HI, ho, kb_p, hBW⟩ := hrel
    have HLK := Lib.hid hlk
    have hk400 : k ≤ 400 := by
      have h9 := spl_count 32 t []
      have h8 : ps.length ≤ t.length + 1 := by rw [HPS.out]; exact h9
      omega
    have hll : l.length ≤ 400 := by omega
    clear hlk
    have HTB : Hid (Tab wr) := ht.below hBW
    have HBW := Lib.hid hBW
    have hzr := hBW.size
    have hpr := kb_p.lt
    clear hBW
    by_cases hlt : k < ps.length
    · obtain ⟨x, hx⟩ : ∃ x, ps[k]? = some x := ⟨_, List.getElem?_eq_getElem hlt⟩
      have f0 : wr.cell? ⟨b1, k, none⟩ = some (sv x) := (kb_p.cell k).trans (HC1.out k x hx)
      have hk0 : (0 : Int) ≤ (k : Int) := by omega
      have hk1 : (k : Int) < (ps.length : Int) := by omega
      have HR : Hid (Calls Tryd.prog 39 #[sv x] wr fun e w' => e = .returned (.tuple #[.agg #[.int .i64 (rrX x).x, .int .i64 (rrX x).y, .int .i64 (rrX x).z], .bool (rrI x)]) ∧ Below wr.heap.size wr w') := by
        have h9 := ReadRightS_any x wr HTB.out (HLEN.out x (List.mem_of_getElem? hx))
        rw [(rs_rr x).1, (rs_rr x).2] at h9
        exact h9
      obtain ⟨ok, hok⟩ : ∃ ok, ok = rrI x := ⟨_, rfl⟩
      obtain ⟨⟨rx, ry, rz⟩, hrx⟩ : ∃ r, r = rrX x := ⟨_, rfl⟩
      rw [← hok, ← hrx] at HR
      simp only at HR
      have HX := Lib.hid hx
      have HOK := Lib.hid hok
      have HRX := Lib.hid hrx
      clear hx hok hrx HTB
      have hr_q : Row2 wr w0.heap.size wr.heap.size 67 3 A' l.length c' (t3s l) := Row2.born ho
      have hBr := Below.refl wr.heap.size wr
      clear ho
      go_wp2_with fail
      refine HR.out.mono ?_
      rintro e w2 ⟨rfl, hb⟩
      replace hr_q := hr_q.below hb (Nat.le_refl _)
      replace kb_p := kb_p.below hb hpr
      have HB2 : Hid (Below w0.heap.size w0 w2) := HBW.out.trans (hb.mono HBW.out.size)
      have hz2 := hb.size
      clear HR f0 hb hBr
      cases ok
      · have HN : Hid (rdI t = false) := by show _ = _; exact rd_bad (by rw [← HPS.out]; exact HX.out) HOK.out.symm
        have HB3 : Hid (Below w0.heap.size w0 (w2.alloc (.cells #[.int .i64 rx, .int .i64 ry, .int .i64 rz] 67))) := HB2.out.alloc HB2.out.size _
        have hzz : w0.heap.size ≤ w2.heap.size + 1 := by omega
        go_upto_region 10 with fail
        first | refine name_world ?_ | refine name_wp ?_
        intro W3 hW
        have HB4 : Hid (Below w0.heap.size w0 W3) := by
          have hB0 := HB2.out
          have hB1 := Below.refl w0.heap.size w0
          show Below w0.heap.size w0 W3
          rw [hW]
          repeat' (first | (with_reducible exact Below.refl _ _) | (with_reducible assumption) | (with_reducible refine Below.alloc ?_ ?_ _) | (with_reducible refine Below.setCell ?_ ?_ _) | (with_reducible refine Below.drew ?_) | (with_reducible refine below_drewN ?_ _) | (refine Below.trans ?_ (Below.mono (by with_reducible assumption) ?_)) | omega | (simp; done) | (simp; omega))
        clear hW
        go_wp2_with fail
        refine bodyPost_ret (v := .tuple #[.slice (some ⟨W3.heap.size, 0, none⟩) 0 0, .bool false]) (by simp [results, Tryd.results9, go_sem]) rfl (rd_ret_no2 HN.out (HB4.out.alloc HB4.out.size _) (ownEmpty _ _ _ _ HB4.out.size))
      · go_upto_region 11 with fail
        first | refine name_world ?_ | refine name_wp ?_
        intro W3 hW
        have HB4 : Hid (Below w0.heap.size w0 W3) := by
          have hB0 := HB2.out
          have hB1 := Below.refl w0.heap.size w0
          show Below w0.heap.size w0 W3
          rw [hW]
          repeat' (first | (with_reducible exact Below.refl _ _) | (with_reducible assumption) | (with_reducible refine Below.alloc ?_ ?_ _) | (with_reducible refine Below.setCell ?_ ?_ _) | (with_reducible refine Below.drew ?_) | (with_reducible refine below_drewN ?_ _) | (refine Below.trans ?_ (Below.mono (by with_reducible assumption) ?_)) | omega | (simp; done) | (simp; omega))
        have kb_r : Blk W3 w2.heap.size 67 #[.int .i64 rx, .int .i64 ry, .int .i64 rz] := by rw [hW]; repeat' (first | (with_reducible assumption) | (with_reducible refine Blk.drew ?_) | (with_reducible refine Blk.drewN ?_ _) | (with_reducible refine Blk.new' _ _ _ _ ?_; (first | rfl | omega | (simp; done))) | (with_reducible exact Blk.new _ _ _) | (with_reducible refine Blk.alloc ?_ _) | (with_reducible apply Blk.set8) | (with_reducible apply Blk.set7of8) | (with_reducible apply Blk.setlast8) | (with_reducible apply Blk.set7) | (with_reducible apply Blk.set2) | (with_reducible apply Blk.set3) | (with_reducible refine Blk.far ?_ ?_ _) | (simp; done) | (simp; omega) | (dsimp only; omega))
        replace kb_p : Blk W3 b1 9 cur := by rw [hW]; repeat' (first | (with_reducible assumption) | (with_reducible refine Blk.drew ?_) | (with_reducible refine Blk.drewN ?_ _) | (with_reducible refine Blk.new' _ _ _ _ ?_; (first | rfl | omega | (simp; done))) | (with_reducible exact Blk.new _ _ _) | (with_reducible refine Blk.alloc ?_ _) | (with_reducible apply Blk.set8) | (with_reducible apply Blk.set7of8) | (with_reducible apply Blk.setlast8) | (with_reducible apply Blk.set7) | (with_reducible apply Blk.set2) | (with_reducible apply Blk.set3) | (with_reducible refine Blk.far ?_ ?_ _) | (simp; done) | (simp; omega) | (dsimp only; omega))
        replace hr_q : Row2 W3 w0.heap.size wr.heap.size 67 3 A' l.length c' (t3s l) := by rw [hW]; repeat' (first | (with_reducible assumption) | (with_reducible refine Row2.far ?_ ?_ _) | (with_reducible refine Row2.alloc ?_ _) | (with_reducible refine Row2.drewN ?_ _) | (with_reducible refine Row2.drew ?_) | (left; dsimp only; omega) | (right; dsimp only; omega))
        have hz3 : w2.heap.size < W3.heap.size := kb_r.lt
        clear hW
        have kc := kb_r.cells
        have hl3 := kb_r.lt
        have ho6 : (W3.alloc (.cells #[.int .i64 rx, .int .i64 ry, .int .i64 rz] 67)).ownsRow w0.heap.size 67 3 (.slice A' l.length c') l.length (t3s l) := (Row2.alloc hr_q _).1
        have hrd : Rd (W3.alloc (.cells #[.int .i64 rx, .int .i64 ry, .int .i64 rz] 67)) (W3.alloc (.cells #[.int .i64 rx, .int .i64 ry, .int .i64 rz] 67)).heap.size 3 (some ⟨W3.heap.size, 0, none⟩) 1 1 (t3s [⟨rx, ry, rz⟩]) := Rd.of_own (row_oneR W3 W3.heap.size rx ry rz (Nat.le_refl _))
        go_wp2_with (at_builtin; refine wpList_appAll rfl _ _ 22 rfl w0.heap.size 67 (.agg #[.int .i64 0, .int .i64 0, .int .i64 0]) 3 24 Tryd.underlying22 infoRight rfl (by decide) (.slice A' l.length c') l.length (t3s l) rfl ho6 _ (some ⟨W3.heap.size, 0, none⟩) 1 1 (t3s [⟨rx, ry, rz⟩]) rfl hrd (t3s_one _) (by omega) (by omega) (by (first | omega | (simp; done) | (simp; omega))) ?_)
        intro A3 c3 w4 ho4 hg4
        have hB4 := below_grown_own (HB4.out.alloc HB4.out.size (.cells #[.int .i64 rx, .int .i64 ry, .int .i64 rz] 67)) ho6 hg4 (Nat.le_refl _) (by first | omega | (simp; omega))
        have hk4 : Blk w4 b1 9 cur := blk_keep9 ho6 hg4 (by decide) (Blk.alloc kb_p _)
        rw [← t3s_append] at ho4
        have H4 : Hid (((∀ y ∈ ps.take (k + 1), rrI y = true) ∧ l ++ [⟨rx, ry, rz⟩] = (ps.take (k + 1)).map rrX) ∧ w4.ownsRow w0.heap.size 67 3 (.slice A3 (l ++ [(⟨rx, ry, rz⟩ : T3)]).length c3) (l ++ [(⟨rx, ry, rz⟩ : T3)]).length (t3s (l ++ [⟨rx, ry, rz⟩])) ∧ Blk w4 b1 9 cur ∧ Below w0.heap.size w0 w4) :=
          ⟨⟨rr_take HX.out HI.out.1 HOK.out.symm, by rw [HI.out.2, HRX.out, List.take_add_one, HX.out]; simp⟩, by rw [List.length_append]; exact ho4, hk4, hB4⟩
        clear ho4 hB4 hg4 ho6 hrd hr_q kb_r kc HI HX HOK HRX hk4 kb_p
        go_wp2_with fail
        go_roundw
        case rel => exact ⟨k + 1, A3, c3, _, by omega, by go_num, by rw [List.length_append]; rfl, by rw [List.length_append, HLK.out]; rfl, H4.out.1, H4.out.2.1, H4.out.2.2.1, H4.out.2.2.2⟩
        case measure => simp [intOf]; omega
    · obtain rfl : k = ps.length := by omega
      have hk1 : ¬ (ps.length : Int) < (ps.length : Int) := by omega
      have HRO := Lib.hid (fun (W : World) (hb : Below wr.heap.size wr W) => RightsOkS_any A' c' l W (RdT.below (Rd.of_own ho) hb))
      have HDT := Lib.hid (fun (W : World) (hb : Below wr.heap.size wr W) => DeedTextS_any A' c' l W (RdT.below (Rd.of_own ho) hb) (HTB.out.below hb))
      have hlL : l = rdL t := by rw [HI.out.2, List.take_length, HPS.out]; rfl
      have HLL := Lib.hid hlL
      have hall : ∀ y ∈ rdP t, rrI y = true := by have h9 := HI.out.1; rw [List.take_length, HPS.out] at h9; exact h9
      have HAL := Lib.hid hall
      have hr_q : Row2 wr w0.heap.size wr.heap.size 67 3 A' l.length c' (t3s l) := Row2.born ho
      have hB := Below.refl wr.heap.size wr
      obtain ⟨dt, hdt⟩ : ∃ dt, dt = deedText l := ⟨_, rfl⟩
      obtain ⟨ro, hro⟩ : ∃ ro, ro = rightsOk l := ⟨_, rfl⟩
      rw [← hdt] at HDT
      rw [← hro] at HRO
      have HDTE := Lib.hid hdt
      have HROE := Lib.hid hro
      clear ho hlL hall hdt hro HI HTB kb_p
      go_wp2_with fail
      refine (HRO.out _ hB).mono ?_
      rintro e w2 ⟨rfl, hb⟩
      replace hr_q := hr_q.below hb (Nat.le_refl _)
      replace hB := hB.trans (Below.mono hb hB.size)
      have hz2 := hb.size
      clear hb
      cases ro
      · have HN : Hid (rdI t = false) := by show _ = _; exact rd_bad_rights (by rw [← HLL.out]; exact HROE.out.symm)
        have HB4 : Hid (Below w0.heap.size w0 w2) := HBW.out.trans (hB.mono HBW.out.size)
        go_wp2_with fail
        refine bodyPost_ret (v := .tuple #[.slice (some ⟨w2.heap.size, 0, none⟩) 0 0, .bool false]) (by simp [results, Tryd.results9, go_sem]) rfl (rd_ret_no2 HN.out (HB4.out.alloc HB4.out.size _) (ownEmpty _ _ _ _ HB4.out.size))
      · go_wp2_with fail
        refine (HDT.out _ hB).mono ?_
        rintro e w3 ⟨rfl, hb⟩
        replace hr_q := hr_q.below hb (by omega)
        replace hB := hB.trans (Below.mono hb hB.size)
        have HB4 : Hid (Below w0.heap.size w0 w3) := HBW.out.trans (hB.mono HBW.out.size)
        clear hb
        by_cases hq : dt = t
        · have HN : Hid (rdI t = true) := by show _ = _; exact rd_good HAL.out (by rw [← HLL.out]; exact HROE.out.symm) (by rw [← HLL.out, ← HDTE.out]; exact hq)
          have e1 : (dt != t) = false := by simpa using hq
          go_wp2_with fail
          refine bodyPost_ret (v := .tuple #[.slice A' l.length c', .bool true]) (by simp [results, Tryd.results9, go_sem]) rfl ⟨A', c', ?_, ?_, HB4.out⟩
          · rw [(rdX_yes HN.out).1, HN.out, ← HLL.out]
          · rw [(rdX_yes HN.out).1, ← HLL.out]; exact hr_q.1
        · have HN : Hid (rdI t = false) := by show _ = _; exact rd_bad_text (by rw [← HLL.out, ← HDTE.out]; exact hq)
          have e1 : (dt == t) = false := by simpa using hq
          go_wp2_with fail
          refine bodyPost_ret (v := .tuple #[.slice (some ⟨w3.heap.size, 0, none⟩) 0 0, .bool false]) (by simp [results, Tryd.results9, go_sem]) rfl (rd_ret_no2 HN.out (HB4.out.alloc HB4.out.size _) (ownEmpty _ _ _ _ HB4.out.size))
theorem ReadDeedS_any (t : List UInt8) (w : World) (ht : Tab w) (hs : t.length ≤ 1048576) :
    Calls Tryd.prog 9 #[sv t] w fun e w' => ∃ A' c', e = .returned (.tuple #[.slice A' (rdX t).length c', .bool (rdI t)]) ∧ w'.ownsRow w.heap.size 67 3 (.slice A' (rdX t).length c') (rdX t).length (t3s (rdX t)) ∧ Below w.heap.size w w' := ReadDeedS_ret t w ht hs
end Go.Proofs.YtbkgofjajhplpaaDoor
