/- ReadRight: both sides. -/
import Derived.Test.YtpmmjhpmheooeaaDoorSplit
import Derived.Test.YtpmmjhpmheooeaaDoorPUint
import Derived.Test.YtpmmjhpmheooeaaDoorShelf
namespace Go.Proofs.YtpmmjhpmheooeaaDoor
set_option linter.unusedSimpArgs false
set_option linter.unusedVariables false
open Go.RowKit
set_option maxRecDepth 20000
/-- internal/bytealg.MaxLen holds some int. -/
def MaxLen (w : World) : Prop := ∃ m : Int, w.cell? ⟨0, 0, none⟩ = some (.int .i64 m)
theorem MaxLen.below {w w' : World} (h : MaxLen w) (hb : Below w.heap.size w w') : MaxLen w' := by
  obtain ⟨m, hm⟩ := h
  exact ⟨m, (hb.cell (World.block_lt_of_cell? w _ hm)).trans hm⟩
theorem Cut_any (s sep : List UInt8) (w : World) (hs : s.length ≤ 1048576) (hm : MaxLen w) :
    Calls Tryd.prog 40 #[sv s, sv sep] w fun e w' => e = .returned (.tuple #[sv (Lib.cut s sep).1, sv (Lib.cut s sep).2.1, .bool (Lib.cut s sep).2.2]) ∧ Below w.heap.size w w' := by
  obtain ⟨m, hm⟩ := hm
  refine (Tryd.strings_Cut ⟨s.toArray⟩ ⟨sep.toArray⟩ m w (by simp [ByteArray.size]; omega) hm).mono ?_
  rintro e w' ⟨rfl, n, rfl⟩
  exact ⟨by simp, below_drewN (Below.refl _ _) n⟩
theorem cut_len (s sep : List UInt8) : (Lib.cut s sep).1.length ≤ s.length ∧ (Lib.cut s sep).2.1.length ≤ s.length := by
  unfold Lib.cut
  split
  · exact ⟨by rw [List.length_take]; omega, by rw [List.length_drop]; omega⟩
  · exact ⟨Nat.le_refl _, by simp⟩
theorem rrX_no {t : List UInt8} (h : rrI t = false) : rrX t = ⟨0, 0, 0⟩ ∧ rrI t = false := ⟨by unfold rrX; rw [h]; rfl, h⟩
set_option maxHeartbeats 3200000 in
theorem ReadRight_any (t : List UInt8) (w : World) (ht : Tab w) (hm : MaxLen w) (hs : t.length ≤ 1048576) :
    Calls Tryd.prog 18 #[sv t] w fun e w' => e = .returned (.tuple #[.agg #[.int .i64 (rrX t).x, .int .i64 (rrX t).y, .int .i64 (rrX t).z], .bool (rrI t)]) ∧ Below w.heap.size w w' := by
  have hB := Below.refl w.heap.size w
  have hl1 := cut_len t [58]
  have HC := Lib.hid (fun W (h : MaxLen W) => Cut_any t [58] W hs h)
  obtain ⟨ow, sh, fd, hE0⟩ : ∃ ow sh fd, Lib.cut t [58] = (ow, sh, fd) := ⟨_, _, _, rfl⟩
  rw [hE0] at HC hl1
  have hl1a : ow.length ≤ t.length := hl1.1
  have hl1b : sh.length ≤ t.length := hl1.2
  clear hl1
  have E0 := Lib.hid hE0
  clear hE0
  cases fd
  · have HN := Lib.hid (rrX_no (t := t) (by unfold rrI; rw [E0.out]; rfl))
    go_enter Tryd.func18, Tryd.ntmps18
    go_wp2_with fail
    first | refine name_world ?_ | refine name_wp ?_
    intro W1 hW
    replace hB : Below w.heap.size w W1 := by rw [hW]; exact tacT
    have hz_W1 : w.heap.size ≤ W1.heap.size := by rw [hW]; exact sT
    replace kb_r : Blk W1 (w.heap.size) 51 #[.int .i64 0, .int .i64 0, .int .i64 0] := by rw [hW]; exact blkT
    have hLW1_r := kb_r.lt
    try clear kc_r kf_r
    clear hW
    refine (HC.out _ (hm.below hB)).mono ?_
    rintro e w1 ⟨rfl, hb⟩
    replace hB := hB.trans (Below.mono hb hB.size)
    have hz_w1 : W1.heap.size ≤ w1.heap.size := Below.size hb
    replace kb_r := kb_r.mv hb; obtain ⟨kb_r, kc_r, kf_r, hl_r, hn_r⟩ := kb_r
    clear hb
    go_wp2_with fail
    exact bodyPost_ret (v := .tuple #[.agg #[.int .i64 0, .int .i64 0, .int .i64 0], .bool false]) (by simp [results, Tryd.results18, go_sem, kc_r, hl_r, hn_r]) rfl ⟨by rw [HN.out.1, HN.out.2], by exact tacT⟩
  have hl2 := cut_len sh [47]
  have HC2 := Lib.hid (fun W (h : MaxLen W) => Cut_any sh [47] W (by omega) h)
  obtain ⟨tp, b0, br, hE1⟩ : ∃ tp b0 br, Lib.cut sh [47] = (tp, b0, br) := ⟨_, _, _, rfl⟩
  rw [hE1] at HC2 hl2
  have hl2a : tp.length ≤ sh.length := hl2.1
  have hl2b : b0.length ≤ sh.length := hl2.2
  clear hl2
  have HOWN : Hid (rrOwn t = ow) := by show _ = _; unfold rrOwn; rw [E0.out]
  have HTOP : Hid (rrTop t = tp) := by show _ = _; unfold rrTop; rw [E0.out]; show (Lib.cut sh [47]).1 = _; rw [hE1]
  have hbot : rrBot t = if br then b0 else [49] := by unfold rrBot; rw [E0.out]; show (if (Lib.cut sh [47]).2.2 = true then (Lib.cut sh [47]).2.1 else [49]) = _; rw [hE1]
  clear hE1
  obtain ⟨bo, hbo⟩ : ∃ bo : List UInt8, bo = if br then b0 else [49] := ⟨_, rfl⟩
  rw [← hbo] at hbot
  have HBOT := Lib.hid hbot
  clear hbot
  have hbl : bo.length ≤ 9223372036854775807 := by rw [hbo]; cases br <;> simp <;> omega
  have P1 := Lib.hid (fun W (h : Tab W) => ParseUint_any ow W h (by omega))
  have P2 := Lib.hid (fun W (h : Tab W) => ParseUint_any tp W h (by omega))
  have P3 := Lib.hid (fun W (h : Tab W) => ParseUint_any bo W h hbl)
  obtain ⟨n1, o1, h1⟩ : ∃ n1 o1, n1 = puVal ow ∧ o1 = puOk ow := ⟨_, _, rfl, rfl⟩
  obtain ⟨n2, o2, h2⟩ : ∃ n1 o1, n1 = puVal tp ∧ o1 = puOk tp := ⟨_, _, rfl, rfl⟩
  obtain ⟨n3, o3, h3⟩ : ∃ n1 o1, n1 = puVal bo ∧ o1 = puOk bo := ⟨_, _, rfl, rfl⟩
  rw [← h1.1, ← h1.2] at P1
  rw [← h2.1, ← h2.2] at P2
  rw [← h3.1, ← h3.2] at P3
  have H1 := Lib.hid h1
  have H2 := Lib.hid h2
  have H3 := Lib.hid h3
  clear h1 h2 h3
  go_enter Tryd.func18, Tryd.ntmps18
  go_wp2_with fail
  first | refine name_world ?_ | refine name_wp ?_
  intro W1 hW
  replace hB : Below w.heap.size w W1 := by rw [hW]; exact tacT
  have hz_W1 : w.heap.size ≤ W1.heap.size := by rw [hW]; exact sT
  replace kb_r : Blk W1 (w.heap.size) 51 #[.int .i64 0, .int .i64 0, .int .i64 0] := by rw [hW]; exact blkT
  have hLW1_r := kb_r.lt
  try clear kc_r kf_r
  clear hW
  refine (HC.out _ (hm.below hB)).mono ?_
  rintro e w1 ⟨rfl, hb⟩
  replace hB := hB.trans (Below.mono hb hB.size)
  have hz_w1 : W1.heap.size ≤ w1.heap.size := Below.size hb
  replace kb_r := kb_r.mv hb; obtain ⟨kb_r, kc_r, kf_r, hl_r, hn_r⟩ := kb_r
  clear hb
  go_wp2_with fail
  refine (HC2.out _ (hm.below hB)).mono ?_
  rintro e w2 ⟨rfl, hb⟩
  replace hB := hB.trans (Below.mono hb hB.size)
  have hz_w2 : w1.heap.size ≤ w2.heap.size := Below.size hb
  replace kb_r := kb_r.mv hb; obtain ⟨kb_r, kc_r, kf_r, hl_r, hn_r⟩ := kb_r
  clear hb
  cases br
  · obtain rfl : bo = [49] := hbo
    have HR : Hid (rrI t = (o1 && o2 && o3 && decide (t ≠ []) && decide (rightText n1 n2 n3 = t))) := by
      show _ = _
      unfold rrI
      rw [HOWN.out, HTOP.out, HBOT.out, E0.out, ← H1.out.1, ← H1.out.2, ← H2.out.1, ← H2.out.2, ← H3.out.1, ← H3.out.2]
      simp
    have HX : Hid (rrI t = true → rrX t = ⟨n1, n2, n3⟩) := fun h => by
      unfold rrX
      rw [if_pos h, HOWN.out, HTOP.out, HBOT.out, ← H1.out.1, ← H2.out.1, ← H3.out.1]
    clear H1 H2 H3
    go_wp2_with fail
    refine (P1.out _ (ht.below hB)).mono ?_
    rintro e w3 ⟨rfl, hb⟩
    replace hB := hB.trans (Below.mono hb hB.size)
    have hz_w3 : w2.heap.size ≤ w3.heap.size := Below.size hb
    replace kb_r := kb_r.mv hb; obtain ⟨kb_r, kc_r, kf_r, hl_r, hn_r⟩ := kb_r
    clear hb
    go_wp2_with fail
    refine (P2.out _ (ht.below hB)).mono ?_
    rintro e w4 ⟨rfl, hb⟩
    replace hB := hB.trans (Below.mono hb hB.size)
    have hz_w4 : w3.heap.size ≤ w4.heap.size := Below.size hb
    replace kb_r := kb_r.mv hb; obtain ⟨kb_r, kc_r, kf_r, hl_r, hn_r⟩ := kb_r
    clear hb
    go_wp2_with fail
    refine (P3.out _ (ht.below hB)).mono ?_
    rintro e w5 ⟨rfl, hb⟩
    replace hB := hB.trans (Below.mono hb hB.size)
    have hz_w5 : w4.heap.size ≤ w5.heap.size := Below.size hb
    replace kb_r := kb_r.mv hb; obtain ⟨kb_r, kc_r, kf_r, hl_r, hn_r⟩ := kb_r
    clear hb
    cases o1
    · have HN := Lib.hid (rrX_no (t := t) (by rw [HR.out]; rfl))
      go_wp2_with fail
      exact bodyPost_ret (v := .tuple #[.agg #[.int .i64 0, .int .i64 0, .int .i64 0], .bool false]) (by simp [results, Tryd.results18, go_sem, kc_r, hl_r, hn_r]) rfl ⟨by rw [HN.out.1, HN.out.2], by exact tacT⟩
    cases o2
    · have HN := Lib.hid (rrX_no (t := t) (by rw [HR.out]; rfl))
      go_wp2_with fail
      exact bodyPost_ret (v := .tuple #[.agg #[.int .i64 0, .int .i64 0, .int .i64 0], .bool false]) (by simp [results, Tryd.results18, go_sem, kc_r, hl_r, hn_r]) rfl ⟨by rw [HN.out.1, HN.out.2], by exact tacT⟩
    cases o3
    · have HN := Lib.hid (rrX_no (t := t) (by rw [HR.out]; rfl))
      go_wp2_with fail
      exact bodyPost_ret (v := .tuple #[.agg #[.int .i64 0, .int .i64 0, .int .i64 0], .bool false]) (by simp [results, Tryd.results18, go_sem, kc_r, hl_r, hn_r]) rfl ⟨by rw [HN.out.1, HN.out.2], by exact tacT⟩
    by_cases ht0 : t = []
    · have HN := Lib.hid (rrX_no (t := t) (by rw [HR.out, ht0]; simp))
      have e1 : (t == []) = true := by rw [ht0]; rfl
      have e2 : t.length = 0 := by rw [ht0]; rfl
      have e3 : t.isEmpty = true := by rw [ht0]; rfl
      go_wp2_with fail
      exact bodyPost_ret (v := .tuple #[.agg #[.int .i64 0, .int .i64 0, .int .i64 0], .bool false]) (by simp [results, Tryd.results18, go_sem, kc_r, hl_r, hn_r]) rfl ⟨by rw [HN.out.1, HN.out.2], by exact tacT⟩
    have e1 : (t == []) = false := by cases t with
      | nil => exact absurd rfl ht0
      | cons => rfl
    have e3 : t.isEmpty = false := by cases t with
      | nil => exact absurd rfl ht0
      | cons => rfl
    have HF := Lib.hid (fun W (h : Tab W) => RightText_any n1 n2 n3 W h)
    obtain ⟨tx, htx⟩ : ∃ tx, tx = rightText n1 n2 n3 := ⟨_, rfl⟩
    rw [← htx] at HF HR
    clear htx
    by_cases hq : tx = t
    · have HN : Hid (rrI t = true) := by show _ = _; rw [HR.out, decide_eq_true ht0, decide_eq_true hq]; rfl
      have HXN := Lib.hid (HX.out HN.out)
      rw [hq] at HF
      clear hq HR HX
      go_wp2_with fail
      first | refine name_world ?_ | refine name_wp ?_
      intro W6 hW
      replace hB : Below w.heap.size w W6 := by rw [hW]; exact tacT
      have hz_W6 : w5.heap.size ≤ W6.heap.size := by rw [hW]; exact sT
      replace kb_r : Blk W6 (w.heap.size) 51 #[.int .i64 0, .int .i64 0, .int .i64 0] := by rw [hW]; exact blkT
      have hLW6_r := kb_r.lt
      replace kb_s : Blk W6 (w5.heap.size) 51 #[.int .i64 n1, .int .i64 n2, .int .i64 n3] := by rw [hW]; exact blkT
      have hLW6_s := kb_s.lt
      try clear kc_r kf_r
      try clear kc_s kf_s
      clear hW
      refine (HF.out _ (ht.below hB)).mono ?_
      rintro e w7 ⟨rfl, hb⟩
      replace hB := hB.trans (Below.mono hb hB.size)
      have hz_w7 : W6.heap.size ≤ w7.heap.size := Below.size hb
      replace kb_r := kb_r.mv hb; obtain ⟨kb_r, kc_r, kf_r, hl_r, hn_r⟩ := kb_r
      replace kb_s := kb_s.mv hb; obtain ⟨kb_s, kc_s, kf_s, hl_s, hn_s⟩ := kb_s
      clear hb
      go_wp2_with fail
      exact bodyPost_ret (v := .tuple #[.agg #[.int .i64 n1, .int .i64 n2, .int .i64 n3], .bool true]) (by simp [results, Tryd.results18, go_sem, kc_r, kc_s, hl_r, hn_r, hl_s, hn_s]) rfl ⟨by rw [HXN.out, HN.out], by exact tacT⟩
    · have HN := Lib.hid (rrX_no (t := t) (by rw [HR.out, decide_eq_false hq]; simp))
      have e4 : (tx == t) = false := by simpa using hq
      clear HR HX
      go_wp2_with fail
      first | refine name_world ?_ | refine name_wp ?_
      intro W6 hW
      replace hB : Below w.heap.size w W6 := by rw [hW]; exact tacT
      have hz_W6 : w5.heap.size ≤ W6.heap.size := by rw [hW]; exact sT
      replace kb_r : Blk W6 (w.heap.size) 51 #[.int .i64 0, .int .i64 0, .int .i64 0] := by rw [hW]; exact blkT
      have hLW6_r := kb_r.lt
      replace kb_s : Blk W6 (w5.heap.size) 51 #[.int .i64 n1, .int .i64 n2, .int .i64 n3] := by rw [hW]; exact blkT
      have hLW6_s := kb_s.lt
      try clear kc_r kf_r
      try clear kc_s kf_s
      clear hW
      refine (HF.out _ (ht.below hB)).mono ?_
      rintro e w7 ⟨rfl, hb⟩
      replace hB := hB.trans (Below.mono hb hB.size)
      have hz_w7 : W6.heap.size ≤ w7.heap.size := Below.size hb
      replace kb_r := kb_r.mv hb; obtain ⟨kb_r, kc_r, kf_r, hl_r, hn_r⟩ := kb_r
      replace kb_s := kb_s.mv hb; obtain ⟨kb_s, kc_s, kf_s, hl_s, hn_s⟩ := kb_s
      clear hb
      go_wp2_with fail
      exact bodyPost_ret (v := .tuple #[.agg #[.int .i64 0, .int .i64 0, .int .i64 0], .bool false]) (by simp [results, Tryd.results18, go_sem, kc_r, kc_s, hl_r, hn_r, hl_s, hn_s]) rfl ⟨by rw [HN.out.1, HN.out.2], by exact tacT⟩
  · obtain rfl : bo = b0 := hbo
    have HR : Hid (rrI t = (o1 && o2 && o3 && decide (t ≠ []) && decide (rightText n1 n2 n3 = t))) := by
      show _ = _
      unfold rrI
      rw [HOWN.out, HTOP.out, HBOT.out, E0.out, ← H1.out.1, ← H1.out.2, ← H2.out.1, ← H2.out.2, ← H3.out.1, ← H3.out.2]
      simp
    have HX : Hid (rrI t = true → rrX t = ⟨n1, n2, n3⟩) := fun h => by
      unfold rrX
      rw [if_pos h, HOWN.out, HTOP.out, HBOT.out, ← H1.out.1, ← H2.out.1, ← H3.out.1]
    clear H1 H2 H3
    go_wp2_with fail
    refine (P1.out _ (ht.below hB)).mono ?_
    rintro e w3 ⟨rfl, hb⟩
    replace hB := hB.trans (Below.mono hb hB.size)
    have hz_w3 : w2.heap.size ≤ w3.heap.size := Below.size hb
    replace kb_r := kb_r.mv hb; obtain ⟨kb_r, kc_r, kf_r, hl_r, hn_r⟩ := kb_r
    clear hb
    go_wp2_with fail
    refine (P2.out _ (ht.below hB)).mono ?_
    rintro e w4 ⟨rfl, hb⟩
    replace hB := hB.trans (Below.mono hb hB.size)
    have hz_w4 : w3.heap.size ≤ w4.heap.size := Below.size hb
    replace kb_r := kb_r.mv hb; obtain ⟨kb_r, kc_r, kf_r, hl_r, hn_r⟩ := kb_r
    clear hb
    go_wp2_with fail
    refine (P3.out _ (ht.below hB)).mono ?_
    rintro e w5 ⟨rfl, hb⟩
    replace hB := hB.trans (Below.mono hb hB.size)
    have hz_w5 : w4.heap.size ≤ w5.heap.size := Below.size hb
    replace kb_r := kb_r.mv hb; obtain ⟨kb_r, kc_r, kf_r, hl_r, hn_r⟩ := kb_r
    clear hb
    cases o1
    · have HN := Lib.hid (rrX_no (t := t) (by rw [HR.out]; rfl))
      go_wp2_with fail
      exact bodyPost_ret (v := .tuple #[.agg #[.int .i64 0, .int .i64 0, .int .i64 0], .bool false]) (by simp [results, Tryd.results18, go_sem, kc_r, hl_r, hn_r]) rfl ⟨by rw [HN.out.1, HN.out.2], by exact tacT⟩
    cases o2
    · have HN := Lib.hid (rrX_no (t := t) (by rw [HR.out]; rfl))
      go_wp2_with fail
      exact bodyPost_ret (v := .tuple #[.agg #[.int .i64 0, .int .i64 0, .int .i64 0], .bool false]) (by simp [results, Tryd.results18, go_sem, kc_r, hl_r, hn_r]) rfl ⟨by rw [HN.out.1, HN.out.2], by exact tacT⟩
    cases o3
    · have HN := Lib.hid (rrX_no (t := t) (by rw [HR.out]; rfl))
      go_wp2_with fail
      exact bodyPost_ret (v := .tuple #[.agg #[.int .i64 0, .int .i64 0, .int .i64 0], .bool false]) (by simp [results, Tryd.results18, go_sem, kc_r, hl_r, hn_r]) rfl ⟨by rw [HN.out.1, HN.out.2], by exact tacT⟩
    by_cases ht0 : t = []
    · have HN := Lib.hid (rrX_no (t := t) (by rw [HR.out, ht0]; simp))
      have e1 : (t == []) = true := by rw [ht0]; rfl
      have e2 : t.length = 0 := by rw [ht0]; rfl
      have e3 : t.isEmpty = true := by rw [ht0]; rfl
      go_wp2_with fail
      exact bodyPost_ret (v := .tuple #[.agg #[.int .i64 0, .int .i64 0, .int .i64 0], .bool false]) (by simp [results, Tryd.results18, go_sem, kc_r, hl_r, hn_r]) rfl ⟨by rw [HN.out.1, HN.out.2], by exact tacT⟩
    have e1 : (t == []) = false := by cases t with
      | nil => exact absurd rfl ht0
      | cons => rfl
    have e3 : t.isEmpty = false := by cases t with
      | nil => exact absurd rfl ht0
      | cons => rfl
    have HF := Lib.hid (fun W (h : Tab W) => RightText_any n1 n2 n3 W h)
    obtain ⟨tx, htx⟩ : ∃ tx, tx = rightText n1 n2 n3 := ⟨_, rfl⟩
    rw [← htx] at HF HR
    clear htx
    by_cases hq : tx = t
    · have HN : Hid (rrI t = true) := by show _ = _; rw [HR.out, decide_eq_true ht0, decide_eq_true hq]; rfl
      have HXN := Lib.hid (HX.out HN.out)
      rw [hq] at HF
      clear hq HR HX
      go_wp2_with fail
      first | refine name_world ?_ | refine name_wp ?_
      intro W6 hW
      replace hB : Below w.heap.size w W6 := by rw [hW]; exact tacT
      have hz_W6 : w5.heap.size ≤ W6.heap.size := by rw [hW]; exact sT
      replace kb_r : Blk W6 (w.heap.size) 51 #[.int .i64 0, .int .i64 0, .int .i64 0] := by rw [hW]; exact blkT
      have hLW6_r := kb_r.lt
      replace kb_s : Blk W6 (w5.heap.size) 51 #[.int .i64 n1, .int .i64 n2, .int .i64 n3] := by rw [hW]; exact blkT
      have hLW6_s := kb_s.lt
      try clear kc_r kf_r
      try clear kc_s kf_s
      clear hW
      refine (HF.out _ (ht.below hB)).mono ?_
      rintro e w7 ⟨rfl, hb⟩
      replace hB := hB.trans (Below.mono hb hB.size)
      have hz_w7 : W6.heap.size ≤ w7.heap.size := Below.size hb
      replace kb_r := kb_r.mv hb; obtain ⟨kb_r, kc_r, kf_r, hl_r, hn_r⟩ := kb_r
      replace kb_s := kb_s.mv hb; obtain ⟨kb_s, kc_s, kf_s, hl_s, hn_s⟩ := kb_s
      clear hb
      go_wp2_with fail
      exact bodyPost_ret (v := .tuple #[.agg #[.int .i64 n1, .int .i64 n2, .int .i64 n3], .bool true]) (by simp [results, Tryd.results18, go_sem, kc_r, kc_s, hl_r, hn_r, hl_s, hn_s]) rfl ⟨by rw [HXN.out, HN.out], by exact tacT⟩
    · have HN := Lib.hid (rrX_no (t := t) (by rw [HR.out, decide_eq_false hq]; simp))
      have e4 : (tx == t) = false := by simpa using hq
      clear HR HX
      go_wp2_with fail
      first | refine name_world ?_ | refine name_wp ?_
      intro W6 hW
      replace hB : Below w.heap.size w W6 := by rw [hW]; exact tacT
      have hz_W6 : w5.heap.size ≤ W6.heap.size := by rw [hW]; exact sT
      replace kb_r : Blk W6 (w.heap.size) 51 #[.int .i64 0, .int .i64 0, .int .i64 0] := by rw [hW]; exact blkT
      have hLW6_r := kb_r.lt
      replace kb_s : Blk W6 (w5.heap.size) 51 #[.int .i64 n1, .int .i64 n2, .int .i64 n3] := by rw [hW]; exact blkT
      have hLW6_s := kb_s.lt
      try clear kc_r kf_r
      try clear kc_s kf_s
      clear hW
      refine (HF.out _ (ht.below hB)).mono ?_
      rintro e w7 ⟨rfl, hb⟩
      replace hB := hB.trans (Below.mono hb hB.size)
      have hz_w7 : W6.heap.size ≤ w7.heap.size := Below.size hb
      replace kb_r := kb_r.mv hb; obtain ⟨kb_r, kc_r, kf_r, hl_r, hn_r⟩ := kb_r
      replace kb_s := kb_s.mv hb; obtain ⟨kb_s, kc_s, kf_s, hl_s, hn_s⟩ := kb_s
      clear hb
      go_wp2_with fail
      exact bodyPost_ret (v := .tuple #[.agg #[.int .i64 0, .int .i64 0, .int .i64 0], .bool false]) (by simp [results, Tryd.results18, go_sem, kc_r, kc_s, hl_r, hn_r, hl_s, hn_s]) rfl ⟨by rw [HN.out.1, HN.out.2], by exact tacT⟩
end Go.Proofs.YtpmmjhpmheooeaaDoor
