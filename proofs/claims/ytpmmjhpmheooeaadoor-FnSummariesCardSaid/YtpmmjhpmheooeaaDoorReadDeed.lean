/- ReadDeed: both sides. -/
import Derived.Test.YtpmmjhpmheooeaaDoorRdPure
import Derived.Test.YtpmmjhpmheooeaaDoorReadRightS
import Derived.Test.YtpmmjhpmheooeaaDoorDeed
import Derived.Test.YtpmmjhpmheooeaaDoorInfoR
import Derived.Deep.DeepCutAuto
namespace Go.Proofs.YtpmmjhpmheooeaaDoor
set_option linter.unusedSimpArgs false
set_option linter.unusedVariables false
open Go.RowKit
set_option maxRecDepth 20000
theorem Split_any (s : List UInt8) (c : UInt8) (w : World) (hs : s.length ≤ 1048576) (hm : MaxLen w) :
    Calls Tryd.prog 37 #[sv s, sv [c]] w fun e w' => ∃ A' c', e = .returned (.slice A' (spl c [] s).length c') ∧ OwnSt w' w.heap.size A' c' (spl c [] s) ∧ Below w.heap.size w w' := by
  obtain ⟨m, hm⟩ := hm
  have e1 := split_one c s
  refine (Tryd.strings_Split ⟨s.toArray⟩ ⟨#[c]⟩ m w (by simp [ByteArray.size]; omega) hm (by simp [ByteArray.size])).mono ?_
  rintro e w' ⟨rfl, rfl⟩
  have hl := Lib.splitB_all ⟨#[c]⟩ (by simp [ByteArray.size]) 0 _ ⟨s.toArray⟩ rfl
  have hc := Lib.countB_le ⟨#[c]⟩ (by simp [ByteArray.size]) _ ⟨s.toArray⟩ (Nat.le_refl _)
  have hz : (⟨s.toArray⟩ : ByteArray).size = s.length := by simp [ByteArray.size]
  have hn : Lib.countB ⟨s.toArray⟩ ⟨#[c]⟩ + 1 = (spl c [] s).length := by rw [← e1, List.length_map]; exact hl.symm
  have e2 : (Lib.splitB ⟨#[c]⟩ 0 (Lib.countB ⟨s.toArray⟩ ⟨#[c]⟩) ⟨s.toArray⟩).map Value.string = strs (spl c [] s) := by
    rw [← e1]
    unfold strs
    rw [List.map_map]
    refine List.map_congr_left fun x _ => ?_
    simp
  rw [e2, hn]
  refine ⟨_, _, rfl, ?_, Below.alloc (Below.refl _ _) (Nat.le_refl _) _⟩
  refine ⟨by simp [strs], .inr ⟨w.heap.size, (spl c [] s).length, (strs (spl c [] s)).toArray, rfl, Nat.le_refl _, heap_alloc_new w _, Nat.le_refl _, by unfold maxLen; omega, by simp [strs], by simp only [List.toList_toArray, Nat.mul_one]; exact List.take_of_length_le (by simp [strs])⟩⟩
theorem rdL_snoc {t : List UInt8} {k : Nat} {x : List UInt8} (h : (rdP t)[k]? = some x) : ((rdP t).take (k + 1)).map rrX = ((rdP t).take k).map rrX ++ [rrX x] := by
  rw [List.take_add_one, h]; simp
theorem rr_take {l : List (List UInt8)} {k : Nat} {x : List UInt8} (h : l[k]? = some x) (h1 : ∀ y ∈ l.take k, rrI y = true) (hx : rrI x = true) : ∀ y ∈ l.take (k + 1), rrI y = true := by
  intro y hy
  rw [List.take_add_one, h] at hy
  rcases List.mem_append.1 hy with hy | hy
  · exact h1 y hy
  · simp at hy; rw [hy]; exact hx
theorem row_oneR (w : World) (base : Nat) (x y z : Int) (hb : base ≤ w.heap.size) : (w.alloc (.cells #[.int .i64 x, .int .i64 y, .int .i64 z] 51)).ownsRow base 51 3 (.slice (some ⟨w.heap.size, 0, none⟩) 1 1) 1 (t3s [⟨x, y, z⟩]) :=
  ⟨rfl, .inr ⟨w.heap.size, 1, #[.int .i64 x, .int .i64 y, .int .i64 z], rfl, hb, heap_alloc_new w _, Nat.le_refl _, by unfold maxLen; omega, rfl, rfl⟩⟩
def RdRet (t : List UInt8) (w : World) (e : Ending) (w' : World) : Prop := ∃ A' c', e = .returned (.tuple #[.slice A' (rdX t).length c', .bool (rdI t)]) ∧ w'.ownsRow w.heap.size 51 3 (.slice A' (rdX t).length c') (rdX t).length (t3s (rdX t)) ∧ Below w.heap.size w w'
theorem rd_ret_no {t : List UInt8} {w w' : World} (h : rdI t = false) (hb : Below w.heap.size w w') : RdRet t w (.returned (.tuple #[.slice none 0 0, .bool false])) w' := by
  have hx := rdX_no h
  refine ⟨none, 0, ?_, ?_, hb⟩
  · rw [hx.1, hx.2]; rfl
  · rw [hx.1]; exact World.ownsRow_nil _ _ _ _
set_option maxHeartbeats 6400000 in
theorem ReadDeed_ret (t : List UInt8) (w0 : World) (ht : Tab w0) (hm : MaxLen w0) (hs : t.length ≤ 1048576) :
    Calls Tryd.prog 15 #[sv t] w0 (RdRet t w0) := by
  have hpl := rdP_ne t
  have HSp : Hid (∀ W, MaxLen W → Calls Tryd.prog 37 #[sv t, sv [32]] W fun e w' => ∃ A' c', e = .returned (.slice A' (rdP t).length c') ∧ OwnSt w' W.heap.size A' c' (rdP t) ∧ Below W.heap.size W w') := fun W h => Split_any t 32 W hs h
  have HLEN : Hid (∀ x ∈ rdP t, x.length ≤ 1048576) := fun x hx => by have h9 := spl_len 32 t [] x hx; simp at h9; omega
  obtain ⟨ps, hps⟩ : ∃ ps, ps = rdP t := ⟨_, rfl⟩
  rw [← hps] at HSp HLEN hpl
  have HPS := Lib.hid hps
  clear hps
  go_enter Tryd.func15, Tryd.ntmps15
  go_wp2_with fail
  refine (HSp.out _ hm).mono ?_
  rintro e w ⟨A1, c1, rfl, ho1, hb⟩
  obtain ⟨b1, s1, rfl, hbb1, hc1⟩ := (OwnSt.rd ho1).at_ (k := 0) hpl
  have hcap := (OwnSt.rd ho1).2.1
  have HC1 := Lib.hid hc1
  have hb1lt : b1 < w.heap.size := hbb1
  have HB1 := Lib.hid hb
  have hB1 := Below.refl w.heap.size w
  have hz1 := HB1.out.size
  clear ho1 hc1 hb
  go_wp2_with fail
  go_loopw [4, 12] (fun v i wr => ∃ (k : Nat) (A' : Option Addr) (c' : Nat) (l : List T3), k ≤ ps.length ∧ k ≤ 12 ∧ i = .int .i64 k ∧ v = .slice A' l.length c' ∧ l.length = k ∧ Hid ((∀ y ∈ ps.take k, rrI y = true) ∧ l = (ps.take k).map rrX) ∧ wr.ownsRow w.heap.size 51 3 (.slice A' l.length c') l.length (t3s l) ∧ Below w.heap.size w wr) (fun _ i _ => ps.length - (intOf i).toNat)
  case atStart => exact ⟨0, none, 0, [], Nat.zero_le _, Nat.zero_le _, rfl, rfl, rfl, ⟨fun y hy => by simp at hy, rfl⟩, World.ownsRow_nil _ _ _ _, hB1⟩
  case round =>
    obtain ⟨k, A', c', l, hk, hk12, rfl, rfl, hlk, HI, ho, hB⟩ := hrel
    have HLK := Lib.hid hlk
    have hl12 : l.length ≤ 12 := by omega
    clear hlk
    have hbs := hB.size
    have hBW := HB1.out.trans (hB.mono HB1.out.size)
    have HTB : Hid (Tab wr) := ht.below hBW
    have HMB : Hid (MaxLen wr) := hm.below hBW
    have HBW := Lib.hid hBW
    clear hBW
    by_cases hlt : k < ps.length
    · obtain ⟨x, hx⟩ : ∃ x, ps[k]? = some x := ⟨_, List.getElem?_eq_getElem hlt⟩
      have f0 : wr.cell? ⟨b1, s1 + k, none⟩ = some (sv x) := (hB.cell (p := ⟨b1, _, none⟩) hb1lt).trans (HC1.out k x hx)
      have hlb : b1 < wr.heap.size := by omega
      have hk0 : (0 : Int) ≤ (k : Int) := by omega
      have hk1 : (k : Int) < (ps.length : Int) := by omega
      have HR : Hid (Calls Tryd.prog 18 #[sv x] wr fun e w' => e = .returned (.tuple #[.agg #[.int .i64 (rrX x).x, .int .i64 (rrX x).y, .int .i64 (rrX x).z], .bool (rrI x)]) ∧ Below wr.heap.size wr w') := ReadRight_any x wr HTB.out HMB.out (HLEN.out x (List.mem_of_getElem? hx))
      obtain ⟨ok, hok⟩ : ∃ ok, ok = rrI x := ⟨_, rfl⟩
      obtain ⟨⟨rx, ry, rz⟩, hrx⟩ : ∃ r, r = rrX x := ⟨_, rfl⟩
      rw [← hok, ← hrx] at HR
      simp only at HR
      have HX := Lib.hid hx
      have HOK := Lib.hid hok
      have HRX := Lib.hid hrx
      clear hx hok hrx HTB HMB
      have hr_q : Row2 wr w.heap.size wr.heap.size 51 3 A' l.length c' (t3s l) := Row2.born ho
      clear ho
      go_wp2_with fail
      refine HR.out.mono ?_
      rintro e w2 ⟨rfl, hb⟩
      replace hB := hB.trans (Below.mono hb hB.size)
      have hz_w2 : wr.heap.size ≤ w2.heap.size := Below.size hb
      replace hr_q := Row2.below hr_q hb (by omega)
      clear hb
      clear HR f0
      cases ok
      · have HN : Hid (rdI t = false) := by show _ = _; exact rd_bad (by rw [← HPS.out]; exact HX.out) HOK.out.symm
        go_upto_region 7 with fail
        first | refine name_world ?_ | refine name_wp ?_
        intro W3 hW
        replace hB : Below w.heap.size w W3 := by rw [hW]; exact tacT
        have hz_W3 : w2.heap.size ≤ W3.heap.size := by rw [hW]; exact sT
        replace kb_r : Blk W3 (w2.heap.size) 51 #[.int .i64 rx, .int .i64 ry, .int .i64 rz] := by rw [hW]; exact blkT
        have hLW3_r := kb_r.lt
        try clear kc_r kf_r
        clear hW
        go_wp2_with fail
        refine bodyPost_ret (v := .tuple #[.slice none 0 0, .bool false]) (by simp [results, Tryd.results15, go_sem]) rfl (rd_ret_no HN.out (HB1.out.trans (hB.mono HB1.out.size)))
      · by_cases h12 : l.length = 12
        · have HN : Hid (rdI t = false) := by show _ = _; exact rd_many (by rw [← HPS.out]; have := HLK.out; omega)
          have e1 : ((l.length : Int) == 12) = true := by rw [h12]; rfl
          go_upto_region 7 with fail
          first | refine name_world ?_ | refine name_wp ?_
          intro W3 hW
          replace hB : Below w.heap.size w W3 := by rw [hW]; exact tacT
          have hz_W3 : w2.heap.size ≤ W3.heap.size := by rw [hW]; exact sT
          replace kb_r : Blk W3 (w2.heap.size) 51 #[.int .i64 rx, .int .i64 ry, .int .i64 rz] := by rw [hW]; exact blkT
          have hLW3_r := kb_r.lt
          try clear kc_r kf_r
          clear hW
          go_wp2_with fail
          refine bodyPost_ret (v := .tuple #[.slice none 0 0, .bool false]) (by simp [results, Tryd.results15, go_sem]) rfl (rd_ret_no HN.out (HB1.out.trans (hB.mono HB1.out.size)))
        · have e1 : ((l.length : Int) == 12) = false := beq_eq_false_iff_ne.2 (by omega)
          have e2 : ¬ (l.length : Int) = 12 := by omega
          go_upto_region 8 with fail
          first | refine name_world ?_ | refine name_wp ?_
          intro W3 hW
          replace hB : Below w.heap.size w W3 := by rw [hW]; exact tacT
          have hz_W3 : w2.heap.size ≤ W3.heap.size := by rw [hW]; exact sT
          replace kb_r : Blk W3 (w2.heap.size) 51 #[.int .i64 rx, .int .i64 ry, .int .i64 rz] := by rw [hW]; exact blkT
          have hLW3_r := kb_r.lt
          replace hr_q : Row2 W3 (w.heap.size) (wr.heap.size) 51 3 A' (l.length) c' (t3s l) := by rw [hW]; exact rowT
          try clear kc_r kf_r
          clear hW
          have kc := kb_r.cells
          have hl3 := kb_r.lt
          have ho6 : (W3.alloc (.cells #[.int .i64 rx, .int .i64 ry, .int .i64 rz] 51)).ownsRow w.heap.size 51 3 (.slice A' l.length c') l.length (t3s l) := (Row2.alloc hr_q _).1
          have hrd : Rd (W3.alloc (.cells #[.int .i64 rx, .int .i64 ry, .int .i64 rz] 51)) (W3.alloc (.cells #[.int .i64 rx, .int .i64 ry, .int .i64 rz] 51)).heap.size 3 (some ⟨W3.heap.size, 0, none⟩) 1 1 (t3s [⟨rx, ry, rz⟩]) := Rd.of_own (row_oneR W3 W3.heap.size rx ry rz (Nat.le_refl _))
          have hbs3 := hB.size
          go_wp2_with (at_builtin; refine wpList_appAll rfl _ _ 33 rfl w.heap.size 51 (.agg #[.int .i64 0, .int .i64 0, .int .i64 0]) 3 24 Tryd.underlying33 infoRight rfl (by decide) (.slice A' l.length c') l.length (t3s l) rfl ho6 _ (some ⟨W3.heap.size, 0, none⟩) 1 1 (t3s [⟨rx, ry, rz⟩]) rfl hrd (t3s_one _) (by omega) (by omega) (by exact ooT) ?_)
          intro A3 c3 w4 ho4 hg4
          have hB4 := below_grown_own (hB.alloc hbs3 (.cells #[.int .i64 rx, .int .i64 ry, .int .i64 rz] 51)) ho6 hg4 (Nat.le_refl _) (by exact oT)
          rw [← t3s_append] at ho4
          have H4 : Hid (((∀ y ∈ ps.take (k + 1), rrI y = true) ∧ l ++ [⟨rx, ry, rz⟩] = (ps.take (k + 1)).map rrX) ∧ w4.ownsRow w.heap.size 51 3 (.slice A3 (l ++ [(⟨rx, ry, rz⟩ : T3)]).length c3) (l ++ [(⟨rx, ry, rz⟩ : T3)]).length (t3s (l ++ [⟨rx, ry, rz⟩])) ∧ Below w.heap.size w w4) :=
            ⟨⟨rr_take HX.out HI.out.1 HOK.out.symm, by rw [HI.out.2, HRX.out, List.take_add_one, HX.out]; simp⟩, by rw [List.length_append]; exact ho4, hB4⟩
          clear ho4 hB4 hg4 ho6 hrd hr_q kb_r kc HI HX HOK HRX
          go_wp2_with fail
          go_roundw
          case rel => exact ⟨k + 1, A3, c3, _, by omega, by have := HLK.out; omega, by go_num, by rw [List.length_append]; rfl, by rw [List.length_append, HLK.out]; rfl, H4.out.1, H4.out.2.1, H4.out.2.2⟩
          case measure => simp [intOf]; omega
    · obtain rfl : k = ps.length := by omega
      have hk1 : ¬ (ps.length : Int) < (ps.length : Int) := by omega
      have HRO := Lib.hid (fun (W : World) (hb : Below wr.heap.size wr W) => RightsOk_any A' c' l W (RdT.below (Rd.of_own ho) hb))
      have HDT := Lib.hid (fun (W : World) (hb : Below wr.heap.size wr W) => DeedText_any A' c' l W (RdT.below (Rd.of_own ho) hb) (HTB.out.below hb))
      have hlL : l = rdL t := by rw [HI.out.2, List.take_length, HPS.out]; rfl
      have HLL := Lib.hid hlL
      have hall : ∀ y ∈ rdP t, rrI y = true := by have h9 := HI.out.1; rw [List.take_length, HPS.out] at h9; exact h9
      have HAL := Lib.hid hall
      have hr_q : Row2 wr w.heap.size wr.heap.size 51 3 A' l.length c' (t3s l) := Row2.born ho
      have hB := Below.refl wr.heap.size wr
      obtain ⟨dt, hdt⟩ : ∃ dt, dt = deedText l := ⟨_, rfl⟩
      obtain ⟨ro, hro⟩ : ∃ ro, ro = rightsOk l := ⟨_, rfl⟩
      rw [← hdt] at HDT
      rw [← hro] at HRO
      have HDTE := Lib.hid hdt
      have HROE := Lib.hid hro
      clear ho hlL hall hdt hro HI HTB HMB
      go_wp2_with fail
      refine (HRO.out _ hB).mono ?_
      rintro e w2 ⟨rfl, hb⟩
      replace hB := hB.trans (Below.mono hb hB.size)
      have hz_w2 : wr.heap.size ≤ w2.heap.size := Below.size hb
      replace hr_q := Row2.below hr_q hb (by omega)
      clear hb
      cases ro
      · have HN : Hid (rdI t = false) := by show _ = _; exact rd_bad_rights (by rw [← HLL.out]; exact HROE.out.symm)
        go_wp2_with fail
        refine bodyPost_ret (v := .tuple #[.slice none 0 0, .bool false]) (by simp [results, Tryd.results15, go_sem]) rfl (rd_ret_no HN.out (HBW.out.trans (hB.mono HBW.out.size)))
      · go_wp2_with fail
        refine (HDT.out _ hB).mono ?_
        rintro e w3 ⟨rfl, hb⟩
        replace hB := hB.trans (Below.mono hb hB.size)
        have hz_w3 : w2.heap.size ≤ w3.heap.size := Below.size hb
        replace hr_q := Row2.below hr_q hb (by omega)
        clear hb
        by_cases hq : dt = t
        · have HN : Hid (rdI t = true) := by show _ = _; exact rd_good HAL.out (by rw [← HLL.out]; exact HROE.out.symm) (by rw [← HLL.out, ← HDTE.out]; exact hq)
          have e1 : (dt != t) = false := by simpa using hq
          go_wp2_with fail
          refine bodyPost_ret (v := .tuple #[.slice A' l.length c', .bool true]) (by simp [results, Tryd.results15, go_sem]) rfl ⟨A', c', ?_, ?_, HBW.out.trans (hB.mono HBW.out.size)⟩
          · rw [(rdX_yes HN.out).1, HN.out, ← HLL.out]
          · rw [(rdX_yes HN.out).1, ← HLL.out]; exact (Row2.mono hr_q (lo' := w0.heap.size) (by omega) (Nat.le_refl _)).1
        · have HN : Hid (rdI t = false) := by show _ = _; exact rd_bad_text (by rw [← HLL.out, ← HDTE.out]; exact hq)
          have e1 : (dt == t) = false := by simpa using hq
          go_wp2_with fail
          refine bodyPost_ret (v := .tuple #[.slice none 0 0, .bool false]) (by simp [results, Tryd.results15, go_sem]) rfl (rd_ret_no HN.out (HBW.out.trans (hB.mono HBW.out.size)))
theorem ReadDeed_any (t : List UInt8) (w : World) (ht : Tab w) (hm : MaxLen w) (hs : t.length ≤ 1048576) :
    Calls Tryd.prog 15 #[sv t] w fun e w' => ∃ A' c', e = .returned (.tuple #[.slice A' (rdX t).length c', .bool (rdI t)]) ∧ w'.ownsRow w.heap.size 51 3 (.slice A' (rdX t).length c') (rdX t).length (t3s (rdX t)) ∧ Below w.heap.size w w' := ReadDeed_ret t w ht hm hs
end Go.Proofs.YtpmmjhpmheooeaaDoor
