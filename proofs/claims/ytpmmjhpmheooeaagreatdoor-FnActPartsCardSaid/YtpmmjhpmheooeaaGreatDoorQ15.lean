/- Texts of the proof, joined: Frac2. -/
import Derived.Test.YtpmmjhpmheooeaaGreatDoorQ11
namespace Go.Proofs.YtpmmjhpmheooeaaGreatDoor
set_option linter.unusedSimpArgs false
set_option linter.unusedVariables false
section
open Go.RowKit
set_option maxRecDepth 20000
theorem mulF_no1 {a b c d : Int} (h : fracOk a b = false) : mulF a b c d = (0, 0, false) := by unfold mulF; rw [h]; rfl
theorem mulF_no2 {a b c d : Int} (h : fracOk c d = false) : mulF a b c d = (0, 0, false) := by unfold mulF; rw [h]; simp
theorem mulF_yes {a b c d : Int} (h1 : fracOk a b = true) (h2 : fracOk c d = true) : mulF a b c d = redF (a * c).toNat (b * d).toNat := by unfold mulF; rw [h1, h2]; rfl
set_option maxHeartbeats 800000 in
theorem TimesFraction_any (a b c d : Int) (w : World) :
  Calls Tryz.prog 128 #[.agg #[.int .i64 a, .int .i64 b], .agg #[.int .i64 c, .int .i64 d]] w fun e w' => e = frRet (mulF a b c d) ∧ Below w.heap.size w w' := by
 have HF : Hid (∀ (t b : Int) (W : World), Calls Tryz.prog 99 #[.agg #[.int .i64 t, .int .i64 b]] W fun e w' => e = .returned (.bool (fracOk t b)) ∧ Below W.heap.size W w') := fun t b W => FractionOk_any t b W
 have hB := Below.refl w.heap.size w
 cases h1 : fracOk a b
 ·have HE := Lib.hid (mulF_no1 (c := c) (d := d) h1)
  go_enter Tryz.func128, Tryz.ntmps128
  go_wp2_with fail
  first | refine name_world ?_ | refine name_wp ?_
  intro W1 hW
  replace hB : Below w.heap.size w W1 := by rw [hW]; exact tacT
  have hz_W1 : w.heap.size ≤ W1.heap.size := by rw [hW]; exact sT
  replace kb_p : Blk W1 (w.heap.size) 67 #[.int .i64 a, .int .i64 b] := by rw [hW]; exact blkT
  have hLW1_p := kb_p.lt
  replace kb_q : Blk W1 (w.heap.size + 1) 67 #[.int .i64 c, .int .i64 d] := by rw [hW]; exact blkT
  have hLW1_q := kb_q.lt
  replace kb_r : Blk W1 (w.heap.size + 2) 67 #[.int .i64 0, .int .i64 0] := by rw [hW]; exact blkT
  have hLW1_r := kb_r.lt
  try clear kc_p kf_p
  try clear kc_q kf_q
  try clear kc_r kf_r
  clear hW
  refine (HF.out _ _ _).mono ?_
  rw [h1]
  rintro e w1 ⟨rfl, hb⟩
  replace hB := hB.trans (Below.mono hb hB.size)
  have hz_w1 : W1.heap.size ≤ w1.heap.size := Below.size hb
  replace kb_p := kb_p.mv hb; obtain ⟨kb_p, kc_p, kf_p, hl_p, hn_p⟩ := kb_p
  replace kb_q := kb_q.mv hb; obtain ⟨kb_q, kc_q, kf_q, hl_q, hn_q⟩ := kb_q
  replace kb_r := kb_r.mv hb; obtain ⟨kb_r, kc_r, kf_r, hl_r, hn_r⟩ := kb_r
  clear hb
  go_wp2_with fail
  refine bodyPost_ret (v := .tuple #[.agg #[.int .i64 0, .int .i64 0], .bool false]) ?_ rfl ?_
  ·simp [results, Tryz.results128, go_sem, kc_r]
  ·exact ⟨by rw [HE.out]; rfl, by exact tacT⟩
 cases h2 : fracOk c d
 ·have HE := Lib.hid (mulF_no2 (a := a) (b := b) h2)
  go_enter Tryz.func128, Tryz.ntmps128
  go_wp2_with fail
  first | refine name_world ?_ | refine name_wp ?_
  intro W1 hW
  replace hB : Below w.heap.size w W1 := by rw [hW]; exact tacT
  have hz_W1 : w.heap.size ≤ W1.heap.size := by rw [hW]; exact sT
  replace kb_p : Blk W1 (w.heap.size) 67 #[.int .i64 a, .int .i64 b] := by rw [hW]; exact blkT
  have hLW1_p := kb_p.lt
  replace kb_q : Blk W1 (w.heap.size + 1) 67 #[.int .i64 c, .int .i64 d] := by rw [hW]; exact blkT
  have hLW1_q := kb_q.lt
  replace kb_r : Blk W1 (w.heap.size + 2) 67 #[.int .i64 0, .int .i64 0] := by rw [hW]; exact blkT
  have hLW1_r := kb_r.lt
  try clear kc_p kf_p
  try clear kc_q kf_q
  try clear kc_r kf_r
  clear hW
  refine (HF.out _ _ _).mono ?_
  rw [h1]
  rintro e w1 ⟨rfl, hb⟩
  replace hB := hB.trans (Below.mono hb hB.size)
  have hz_w1 : W1.heap.size ≤ w1.heap.size := Below.size hb
  replace kb_p := kb_p.mv hb; obtain ⟨kb_p, kc_p, kf_p, hl_p, hn_p⟩ := kb_p
  replace kb_q := kb_q.mv hb; obtain ⟨kb_q, kc_q, kf_q, hl_q, hn_q⟩ := kb_q
  replace kb_r := kb_r.mv hb; obtain ⟨kb_r, kc_r, kf_r, hl_r, hn_r⟩ := kb_r
  clear hb
  go_wp2_with fail
  first | refine name_world ?_ | refine name_wp ?_
  intro W2 hW
  replace hB : Below w.heap.size w W2 := by rw [hW]; exact tacT
  have hz_W2 : w1.heap.size ≤ W2.heap.size := by rw [hW]; exact sT
  replace kb_p : Blk W2 (w.heap.size) 67 #[.int .i64 a, .int .i64 b] := by rw [hW]; exact blkT
  have hLW2_p := kb_p.lt
  replace kb_q : Blk W2 (w.heap.size + 1) 67 #[.int .i64 c, .int .i64 d] := by rw [hW]; exact blkT
  have hLW2_q := kb_q.lt
  replace kb_r : Blk W2 (w.heap.size + 2) 67 #[.int .i64 0, .int .i64 0] := by rw [hW]; exact blkT
  have hLW2_r := kb_r.lt
  try clear kc_p kf_p
  try clear kc_q kf_q
  try clear kc_r kf_r
  clear hW
  refine (HF.out _ _ _).mono ?_
  rw [h2]
  rintro e w2 ⟨rfl, hb⟩
  replace hB := hB.trans (Below.mono hb hB.size)
  have hz_w2 : W2.heap.size ≤ w2.heap.size := Below.size hb
  replace kb_p := kb_p.mv hb; obtain ⟨kb_p, kc_p, kf_p, hl_p, hn_p⟩ := kb_p
  replace kb_q := kb_q.mv hb; obtain ⟨kb_q, kc_q, kf_q, hl_q, hn_q⟩ := kb_q
  replace kb_r := kb_r.mv hb; obtain ⟨kb_r, kc_r, kf_r, hl_r, hn_r⟩ := kb_r
  clear hb
  go_wp2_with fail
  refine bodyPost_ret (v := .tuple #[.agg #[.int .i64 0, .int .i64 0], .bool false]) ?_ rfl ?_
  ·simp [results, Tryz.results128, go_sem, kc_r]
  ·exact ⟨by rw [HE.out]; rfl, by exact tacT⟩
 obtain ⟨a0, a1, b0, b1⟩ := fracOk_iff h1
 obtain ⟨c0, c1, d0, d1⟩ := fracOk_iff h2
 have m1 := mul_in a0 a1 c0 c1
 have m3 := mul_in (show 0 ≤ b by omega) b1 (show 0 ≤ d by omega) d1
 have m4 : 1 ≤ b * d := Int.mul_pos (by omega) (by omega)
 have HE := Lib.hid (mulF_yes h1 h2)
 obtain ⟨R, hR⟩ : ∃ R, R = redF (a * c).toNat (b * d).toNat := ⟨_, rfl⟩
 have HK : Hid (∀ W, Calls Tryz.prog 151 #[.int .i64 (a * c), .int .i64 (b * d)] W fun e w' => e = frRet R ∧ Below W.heap.size W w') := fun W => by rw [hR]; exact reduced_i _ _ W (by omega) (by omega) (by omega) (by omega)
 rw [← hR] at HE
 clear hR
 go_enter Tryz.func128, Tryz.ntmps128
 go_wp2_with fail
 first | refine name_world ?_ | refine name_wp ?_
 intro W1 hW
 replace hB : Below w.heap.size w W1 := by rw [hW]; exact tacT
 have hz_W1 : w.heap.size ≤ W1.heap.size := by rw [hW]; exact sT
 replace kb_p : Blk W1 (w.heap.size) 67 #[.int .i64 a, .int .i64 b] := by rw [hW]; exact blkT
 have hLW1_p := kb_p.lt
 replace kb_q : Blk W1 (w.heap.size + 1) 67 #[.int .i64 c, .int .i64 d] := by rw [hW]; exact blkT
 have hLW1_q := kb_q.lt
 replace kb_r : Blk W1 (w.heap.size + 2) 67 #[.int .i64 0, .int .i64 0] := by rw [hW]; exact blkT
 have hLW1_r := kb_r.lt
 try clear kc_p kf_p
 try clear kc_q kf_q
 try clear kc_r kf_r
 clear hW
 refine (HF.out _ _ _).mono ?_
 rw [h1]
 rintro e w1 ⟨rfl, hb⟩
 replace hB := hB.trans (Below.mono hb hB.size)
 have hz_w1 : W1.heap.size ≤ w1.heap.size := Below.size hb
 replace kb_p := kb_p.mv hb; obtain ⟨kb_p, kc_p, kf_p, hl_p, hn_p⟩ := kb_p
 replace kb_q := kb_q.mv hb; obtain ⟨kb_q, kc_q, kf_q, hl_q, hn_q⟩ := kb_q
 replace kb_r := kb_r.mv hb; obtain ⟨kb_r, kc_r, kf_r, hl_r, hn_r⟩ := kb_r
 clear hb
 go_wp2_with fail
 first | refine name_world ?_ | refine name_wp ?_
 intro W2 hW
 replace hB : Below w.heap.size w W2 := by rw [hW]; exact tacT
 have hz_W2 : w1.heap.size ≤ W2.heap.size := by rw [hW]; exact sT
 replace kb_p : Blk W2 (w.heap.size) 67 #[.int .i64 a, .int .i64 b] := by rw [hW]; exact blkT
 have hLW2_p := kb_p.lt
 replace kb_q : Blk W2 (w.heap.size + 1) 67 #[.int .i64 c, .int .i64 d] := by rw [hW]; exact blkT
 have hLW2_q := kb_q.lt
 replace kb_r : Blk W2 (w.heap.size + 2) 67 #[.int .i64 0, .int .i64 0] := by rw [hW]; exact blkT
 have hLW2_r := kb_r.lt
 try clear kc_p kf_p
 try clear kc_q kf_q
 try clear kc_r kf_r
 clear hW
 refine (HF.out _ _ _).mono ?_
 rw [h2]
 rintro e w2 ⟨rfl, hb⟩
 replace hB := hB.trans (Below.mono hb hB.size)
 have hz_w2 : W2.heap.size ≤ w2.heap.size := Below.size hb
 replace kb_p := kb_p.mv hb; obtain ⟨kb_p, kc_p, kf_p, hl_p, hn_p⟩ := kb_p
 replace kb_q := kb_q.mv hb; obtain ⟨kb_q, kc_q, kf_q, hl_q, hn_q⟩ := kb_q
 replace kb_r := kb_r.mv hb; obtain ⟨kb_r, kc_r, kf_r, hl_r, hn_r⟩ := kb_r
 clear hb
 go_wp2_with fail
 first | refine name_world ?_ | refine name_wp ?_
 intro W3 hW
 replace hB : Below w.heap.size w W3 := by rw [hW]; exact tacT
 have hz_W3 : w2.heap.size ≤ W3.heap.size := by rw [hW]; exact sT
 replace kb_r : Blk W3 (w.heap.size + 2) 67 #[.int .i64 0, .int .i64 0] := by rw [hW]; exact blkT
 have hLW3_r := kb_r.lt
 try clear kc_r kf_r
 clear hW
 refine (HK.out _).mono ?_
 rintro e w3 ⟨rfl, hb⟩
 unfold frRet
 replace hB := hB.trans (Below.mono hb hB.size)
 have hz_w3 : W3.heap.size ≤ w3.heap.size := Below.size hb
 replace kb_r := kb_r.mv hb; obtain ⟨kb_r, kc_r, kf_r, hl_r, hn_r⟩ := kb_r
 clear hb
 go_wp2_with fail
 refine bodyPost_ret (v := .tuple #[.agg #[.int .i64 R.1, .int .i64 R.2.1], .bool R.2.2]) ?_ rfl ?_
 ·simp [results, Tryz.results128, go_sem, kc_r]
 ·exact ⟨by rw [HE.out]; rfl, by exact tacT⟩
set_option maxHeartbeats 800000 in
theorem TimesFractionS_any (a b c d : Int) (w : World) :
  Calls Tryz.prog 141 #[.agg #[.int .i64 a, .int .i64 b], .agg #[.int .i64 c, .int .i64 d]] w fun e w' => e = frRet (mulF a b c d) ∧ Below w.heap.size w w' := by
 have HF : Hid (∀ (t b : Int) (W : World), Calls Tryz.prog 113 #[.agg #[.int .i64 t, .int .i64 b]] W fun e w' => e = .returned (.bool (fracOk t b)) ∧ Below W.heap.size W w') := fun t b W => FractionOkS_any t b W
 have hB := Below.refl w.heap.size w
 cases h1 : fracOk a b
 ·have HE := Lib.hid (mulF_no1 (c := c) (d := d) h1)
  go_enter Tryz.func141, Tryz.ntmps141
  go_wp2_with fail
  first | refine name_world ?_ | refine name_wp ?_
  intro W1 hW
  replace hB : Below w.heap.size w W1 := by rw [hW]; exact tacT
  have hz_W1 : w.heap.size ≤ W1.heap.size := by rw [hW]; exact sT
  replace kb_p : Blk W1 (w.heap.size) 67 #[.int .i64 a, .int .i64 b] := by rw [hW]; exact blkT
  have hLW1_p := kb_p.lt
  replace kb_q : Blk W1 (w.heap.size + 1) 67 #[.int .i64 c, .int .i64 d] := by rw [hW]; exact blkT
  have hLW1_q := kb_q.lt
  replace kb_r : Blk W1 (w.heap.size + 2) 67 #[.int .i64 0, .int .i64 0] := by rw [hW]; exact blkT
  have hLW1_r := kb_r.lt
  try clear kc_p kf_p
  try clear kc_q kf_q
  try clear kc_r kf_r
  clear hW
  refine (HF.out _ _ _).mono ?_
  rw [h1]
  rintro e w1 ⟨rfl, hb⟩
  replace hB := hB.trans (Below.mono hb hB.size)
  have hz_w1 : W1.heap.size ≤ w1.heap.size := Below.size hb
  replace kb_p := kb_p.mv hb; obtain ⟨kb_p, kc_p, kf_p, hl_p, hn_p⟩ := kb_p
  replace kb_q := kb_q.mv hb; obtain ⟨kb_q, kc_q, kf_q, hl_q, hn_q⟩ := kb_q
  replace kb_r := kb_r.mv hb; obtain ⟨kb_r, kc_r, kf_r, hl_r, hn_r⟩ := kb_r
  clear hb
  go_wp2_with fail
  refine bodyPost_ret (v := .tuple #[.agg #[.int .i64 0, .int .i64 0], .bool false]) ?_ rfl ?_
  ·simp [results, Tryz.results141, go_sem, kc_r]
  ·exact ⟨by rw [HE.out]; rfl, by exact tacT⟩
 cases h2 : fracOk c d
 ·have HE := Lib.hid (mulF_no2 (a := a) (b := b) h2)
  go_enter Tryz.func141, Tryz.ntmps141
  go_wp2_with fail
  first | refine name_world ?_ | refine name_wp ?_
  intro W1 hW
  replace hB : Below w.heap.size w W1 := by rw [hW]; exact tacT
  have hz_W1 : w.heap.size ≤ W1.heap.size := by rw [hW]; exact sT
  replace kb_p : Blk W1 (w.heap.size) 67 #[.int .i64 a, .int .i64 b] := by rw [hW]; exact blkT
  have hLW1_p := kb_p.lt
  replace kb_q : Blk W1 (w.heap.size + 1) 67 #[.int .i64 c, .int .i64 d] := by rw [hW]; exact blkT
  have hLW1_q := kb_q.lt
  replace kb_r : Blk W1 (w.heap.size + 2) 67 #[.int .i64 0, .int .i64 0] := by rw [hW]; exact blkT
  have hLW1_r := kb_r.lt
  try clear kc_p kf_p
  try clear kc_q kf_q
  try clear kc_r kf_r
  clear hW
  refine (HF.out _ _ _).mono ?_
  rw [h1]
  rintro e w1 ⟨rfl, hb⟩
  replace hB := hB.trans (Below.mono hb hB.size)
  have hz_w1 : W1.heap.size ≤ w1.heap.size := Below.size hb
  replace kb_p := kb_p.mv hb; obtain ⟨kb_p, kc_p, kf_p, hl_p, hn_p⟩ := kb_p
  replace kb_q := kb_q.mv hb; obtain ⟨kb_q, kc_q, kf_q, hl_q, hn_q⟩ := kb_q
  replace kb_r := kb_r.mv hb; obtain ⟨kb_r, kc_r, kf_r, hl_r, hn_r⟩ := kb_r
  clear hb
  go_wp2_with fail
  first | refine name_world ?_ | refine name_wp ?_
  intro W2 hW
  replace hB : Below w.heap.size w W2 := by rw [hW]; exact tacT
  have hz_W2 : w1.heap.size ≤ W2.heap.size := by rw [hW]; exact sT
  replace kb_p : Blk W2 (w.heap.size) 67 #[.int .i64 a, .int .i64 b] := by rw [hW]; exact blkT
  have hLW2_p := kb_p.lt
  replace kb_q : Blk W2 (w.heap.size + 1) 67 #[.int .i64 c, .int .i64 d] := by rw [hW]; exact blkT
  have hLW2_q := kb_q.lt
  replace kb_r : Blk W2 (w.heap.size + 2) 67 #[.int .i64 0, .int .i64 0] := by rw [hW]; exact blkT
  have hLW2_r := kb_r.lt
  try clear kc_p kf_p
  try clear kc_q kf_q
  try clear kc_r kf_r
  clear hW
  refine (HF.out _ _ _).mono ?_
  rw [h2]
  rintro e w2 ⟨rfl, hb⟩
  replace hB := hB.trans (Below.mono hb hB.size)
  have hz_w2 : W2.heap.size ≤ w2.heap.size := Below.size hb
  replace kb_p := kb_p.mv hb; obtain ⟨kb_p, kc_p, kf_p, hl_p, hn_p⟩ := kb_p
  replace kb_q := kb_q.mv hb; obtain ⟨kb_q, kc_q, kf_q, hl_q, hn_q⟩ := kb_q
  replace kb_r := kb_r.mv hb; obtain ⟨kb_r, kc_r, kf_r, hl_r, hn_r⟩ := kb_r
  clear hb
  go_wp2_with fail
  refine bodyPost_ret (v := .tuple #[.agg #[.int .i64 0, .int .i64 0], .bool false]) ?_ rfl ?_
  ·simp [results, Tryz.results141, go_sem, kc_r]
  ·exact ⟨by rw [HE.out]; rfl, by exact tacT⟩
 obtain ⟨a0, a1, b0, b1⟩ := fracOk_iff h1
 obtain ⟨c0, c1, d0, d1⟩ := fracOk_iff h2
 have m1 := mul_in a0 a1 c0 c1
 have m3 := mul_in (show 0 ≤ b by omega) b1 (show 0 ≤ d by omega) d1
 have m4 : 1 ≤ b * d := Int.mul_pos (by omega) (by omega)
 have HE := Lib.hid (mulF_yes h1 h2)
 obtain ⟨R, hR⟩ : ∃ R, R = redF (a * c).toNat (b * d).toNat := ⟨_, rfl⟩
 have HK : Hid (∀ W, Calls Tryz.prog 123 #[.int .i64 (a * c), .int .i64 (b * d)] W fun e w' => e = frRet R ∧ Below W.heap.size W w') := fun W => by
  have hm : makeF (a * c) (b * d) = R := by unfold makeF; rw [inB_iff.2 ⟨m1.1, m1.2⟩, inB_iff.2 ⟨m4, m3.2⟩, hR]; rfl
  rw [← hm]; exact MakeFractionS_any _ _ W
 rw [← hR] at HE
 clear hR
 go_enter Tryz.func141, Tryz.ntmps141
 go_wp2_with fail
 first | refine name_world ?_ | refine name_wp ?_
 intro W1 hW
 replace hB : Below w.heap.size w W1 := by rw [hW]; exact tacT
 have hz_W1 : w.heap.size ≤ W1.heap.size := by rw [hW]; exact sT
 replace kb_p : Blk W1 (w.heap.size) 67 #[.int .i64 a, .int .i64 b] := by rw [hW]; exact blkT
 have hLW1_p := kb_p.lt
 replace kb_q : Blk W1 (w.heap.size + 1) 67 #[.int .i64 c, .int .i64 d] := by rw [hW]; exact blkT
 have hLW1_q := kb_q.lt
 replace kb_r : Blk W1 (w.heap.size + 2) 67 #[.int .i64 0, .int .i64 0] := by rw [hW]; exact blkT
 have hLW1_r := kb_r.lt
 try clear kc_p kf_p
 try clear kc_q kf_q
 try clear kc_r kf_r
 clear hW
 refine (HF.out _ _ _).mono ?_
 rw [h1]
 rintro e w1 ⟨rfl, hb⟩
 replace hB := hB.trans (Below.mono hb hB.size)
 have hz_w1 : W1.heap.size ≤ w1.heap.size := Below.size hb
 replace kb_p := kb_p.mv hb; obtain ⟨kb_p, kc_p, kf_p, hl_p, hn_p⟩ := kb_p
 replace kb_q := kb_q.mv hb; obtain ⟨kb_q, kc_q, kf_q, hl_q, hn_q⟩ := kb_q
 replace kb_r := kb_r.mv hb; obtain ⟨kb_r, kc_r, kf_r, hl_r, hn_r⟩ := kb_r
 clear hb
 go_wp2_with fail
 first | refine name_world ?_ | refine name_wp ?_
 intro W2 hW
 replace hB : Below w.heap.size w W2 := by rw [hW]; exact tacT
 have hz_W2 : w1.heap.size ≤ W2.heap.size := by rw [hW]; exact sT
 replace kb_p : Blk W2 (w.heap.size) 67 #[.int .i64 a, .int .i64 b] := by rw [hW]; exact blkT
 have hLW2_p := kb_p.lt
 replace kb_q : Blk W2 (w.heap.size + 1) 67 #[.int .i64 c, .int .i64 d] := by rw [hW]; exact blkT
 have hLW2_q := kb_q.lt
 replace kb_r : Blk W2 (w.heap.size + 2) 67 #[.int .i64 0, .int .i64 0] := by rw [hW]; exact blkT
 have hLW2_r := kb_r.lt
 try clear kc_p kf_p
 try clear kc_q kf_q
 try clear kc_r kf_r
 clear hW
 refine (HF.out _ _ _).mono ?_
 rw [h2]
 rintro e w2 ⟨rfl, hb⟩
 replace hB := hB.trans (Below.mono hb hB.size)
 have hz_w2 : W2.heap.size ≤ w2.heap.size := Below.size hb
 replace kb_p := kb_p.mv hb; obtain ⟨kb_p, kc_p, kf_p, hl_p, hn_p⟩ := kb_p
 replace kb_q := kb_q.mv hb; obtain ⟨kb_q, kc_q, kf_q, hl_q, hn_q⟩ := kb_q
 replace kb_r := kb_r.mv hb; obtain ⟨kb_r, kc_r, kf_r, hl_r, hn_r⟩ := kb_r
 clear hb
 go_wp2_with fail
 first | refine name_world ?_ | refine name_wp ?_
 intro W3 hW
 replace hB : Below w.heap.size w W3 := by rw [hW]; exact tacT
 have hz_W3 : w2.heap.size ≤ W3.heap.size := by rw [hW]; exact sT
 replace kb_r : Blk W3 (w.heap.size + 2) 67 #[.int .i64 0, .int .i64 0] := by rw [hW]; exact blkT
 have hLW3_r := kb_r.lt
 try clear kc_r kf_r
 clear hW
 refine (HK.out _).mono ?_
 rintro e w3 ⟨rfl, hb⟩
 unfold frRet
 replace hB := hB.trans (Below.mono hb hB.size)
 have hz_w3 : W3.heap.size ≤ w3.heap.size := Below.size hb
 replace kb_r := kb_r.mv hb; obtain ⟨kb_r, kc_r, kf_r, hl_r, hn_r⟩ := kb_r
 clear hb
 go_wp2_with fail
 refine bodyPost_ret (v := .tuple #[.agg #[.int .i64 R.1, .int .i64 R.2.1], .bool R.2.2]) ?_ rfl ?_
 ·simp [results, Tryz.results141, go_sem, kc_r, hn_r, hl_r]
 ·exact ⟨by rw [HE.out]; rfl, by exact tacT⟩
theorem lessF_no1 {a b c d : Int} (h : fracOk a b = false) : lessF a b c d = (0, 0, false) := by unfold lessF; rw [h]; rfl
theorem lessF_no2 {a b c d : Int} (h : fracOk c d = false) : lessF a b c d = (0, 0, false) := by unfold lessF; rw [h]; simp
theorem lessF_no3 {a b c d : Int} (h : a * d < c * b) : lessF a b c d = (0, 0, false) := by unfold lessF; rw [decide_eq_true h]; simp
theorem lessF_yes {a b c d : Int} (h1 : fracOk a b = true) (h2 : fracOk c d = true) (h : ¬ a * d < c * b) : lessF a b c d = redF (a * d - c * b).toNat (b * d).toNat := by unfold lessF; rw [h1, h2, decide_eq_false h]; rfl
theorem splitF_no1 {t b : Int} {n : Nat} (h : fracOk t b = false) : splitF t b n = (0, 0, false) := by unfold splitF; rw [h]; rfl
theorem splitF_no2 {t b : Int} {n : Nat} (h : inB n 1 20 = false) : splitF t b n = (0, 0, false) := by unfold splitF; rw [h]; simp
theorem splitF_yes {t b : Int} {n : Nat} (h1 : fracOk t b = true) (h2 : inB n 1 20 = true) : splitF t b n = redF t.toNat (b * n).toNat := by unfold splitF; rw [h1, h2]; rfl
def cmpI (x y : Int) : Int := if x < y then -1 else if y < x then 1 else 0
theorem isNaN_any (x : Int) (w : World) : Calls Tryz.prog 167 #[.int .i64 x] w fun e w' => e = .returned (.bool false) ∧ w = w' := by
 have h0 : (x != x) = false := by simp
 go_enter Tryz.func167, Tryz.ntmps167
 go_wp2_with fail
 go_ret
 exact ⟨by simp, rfl⟩
theorem Compare_any (x y : Int) (w : World) : Calls Tryz.prog 162 #[.int .i64 x, .int .i64 y] w fun e w' => e = .returned (.int .i64 (cmpI x y)) ∧ w = w' := by
 by_cases h1 : x < y
 ·have HE : Hid (cmpI x y = -1) := if_pos h1
  go_enter Tryz.func162, Tryz.ntmps162
  go_wp2_with (go_at_call 167; refine (isNaN_any _ _).mono ?_; rintro e w' ⟨rfl, rfl⟩)
  go_ret
  exact ⟨ret_int HE.out.symm, rfl⟩
 by_cases h2 : y < x
 ·have HE : Hid (cmpI x y = 1) := (if_neg h1).trans (if_pos h2)
  go_enter Tryz.func162, Tryz.ntmps162
  go_wp2_with (go_at_call 167; refine (isNaN_any _ _).mono ?_; rintro e w' ⟨rfl, rfl⟩)
  go_ret
  exact ⟨ret_int HE.out.symm, rfl⟩
 ·have HE : Hid (cmpI x y = 0) := (if_neg h1).trans (if_neg h2)
  go_enter Tryz.func162, Tryz.ntmps162
  go_wp2_with (go_at_call 167; refine (isNaN_any _ _).mono ?_; rintro e w' ⟨rfl, rfl⟩)
  go_ret
  exact ⟨ret_int HE.out.symm, rfl⟩
set_option maxHeartbeats 800000 in
theorem CompareFractions_ok (a b c d : Int) (w : World) (h1 : fracOk a b = true) (h2 : fracOk c d = true) :
  Calls Tryz.prog 152 #[.agg #[.int .i64 a, .int .i64 b], .agg #[.int .i64 c, .int .i64 d]] w fun e w' => e = .returned (.int .i64 (cmpI (a * d) (c * b))) ∧ Below w.heap.size w w' := by
 have HF : Hid (∀ (t b : Int) (W : World), Calls Tryz.prog 99 #[.agg #[.int .i64 t, .int .i64 b]] W fun e w' => e = .returned (.bool (fracOk t b)) ∧ Below W.heap.size W w') := fun t b W => FractionOk_any t b W
 have hB := Below.refl w.heap.size w
 obtain ⟨a0, a1, b0, b1⟩ := fracOk_iff h1
 obtain ⟨c0, c1, d0, d1⟩ := fracOk_iff h2
 have m1 := mul_in a0 a1 (show 0 ≤ d by omega) d1
 have m2 := mul_in c0 c1 (show 0 ≤ b by omega) b1
 go_enter Tryz.func152, Tryz.ntmps152
 go_wp2_with fail
 first | refine name_world ?_ | refine name_wp ?_
 intro W1 hW
 replace hB : Below w.heap.size w W1 := by rw [hW]; exact tacT
 have hz_W1 : w.heap.size ≤ W1.heap.size := by rw [hW]; exact sT
 replace kb_p : Blk W1 (w.heap.size) 67 #[.int .i64 a, .int .i64 b] := by rw [hW]; exact blkT
 have hLW1_p := kb_p.lt
 replace kb_q : Blk W1 (w.heap.size + 1) 67 #[.int .i64 c, .int .i64 d] := by rw [hW]; exact blkT
 have hLW1_q := kb_q.lt
 try clear kc_p kf_p
 try clear kc_q kf_q
 clear hW
 refine (HF.out _ _ _).mono ?_
 rw [h1]
 rintro e w1 ⟨rfl, hb⟩
 replace hB := hB.trans (Below.mono hb hB.size)
 have hz_w1 : W1.heap.size ≤ w1.heap.size := Below.size hb
 replace kb_p := kb_p.mv hb; obtain ⟨kb_p, kc_p, kf_p, hl_p, hn_p⟩ := kb_p
 replace kb_q := kb_q.mv hb; obtain ⟨kb_q, kc_q, kf_q, hl_q, hn_q⟩ := kb_q
 clear hb
 go_wp2_with fail
 first | refine name_world ?_ | refine name_wp ?_
 intro W2 hW
 replace hB : Below w.heap.size w W2 := by rw [hW]; exact tacT
 have hz_W2 : w1.heap.size ≤ W2.heap.size := by rw [hW]; exact sT
 replace kb_p : Blk W2 (w.heap.size) 67 #[.int .i64 a, .int .i64 b] := by rw [hW]; exact blkT
 have hLW2_p := kb_p.lt
 replace kb_q : Blk W2 (w.heap.size + 1) 67 #[.int .i64 c, .int .i64 d] := by rw [hW]; exact blkT
 have hLW2_q := kb_q.lt
 try clear kc_p kf_p
 try clear kc_q kf_q
 clear hW
 refine (HF.out _ _ _).mono ?_
 rw [h2]
 rintro e w2 ⟨rfl, hb⟩
 replace hB := hB.trans (Below.mono hb hB.size)
 have hz_w2 : W2.heap.size ≤ w2.heap.size := Below.size hb
 replace kb_p := kb_p.mv hb; obtain ⟨kb_p, kc_p, kf_p, hl_p, hn_p⟩ := kb_p
 replace kb_q := kb_q.mv hb; obtain ⟨kb_q, kc_q, kf_q, hl_q, hn_q⟩ := kb_q
 clear hb
 go_wp2_with fail
 refine (Compare_any _ _ _).mono ?_
 rintro e w3 ⟨rfl, rfl⟩
 go_wp2_with fail
 go_ret
 exact ⟨rfl, hB⟩
set_option maxHeartbeats 1600000 in
theorem lessFraction_any (a b c d : Int) (w : World) :
  Calls Tryz.prog 129 #[.agg #[.int .i64 a, .int .i64 b], .agg #[.int .i64 c, .int .i64 d]] w fun e w' => e = frRet (lessF a b c d) ∧ Below w.heap.size w w' := by
 have HF : Hid (∀ (t b : Int) (W : World), Calls Tryz.prog 99 #[.agg #[.int .i64 t, .int .i64 b]] W fun e w' => e = .returned (.bool (fracOk t b)) ∧ Below W.heap.size W w') := fun t b W => FractionOk_any t b W
 have hB := Below.refl w.heap.size w
 cases h1 : fracOk a b
 ·have HE := Lib.hid (lessF_no1 (c := c) (d := d) h1)
  go_enter Tryz.func129, Tryz.ntmps129
  go_wp2_with fail
  first | refine name_world ?_ | refine name_wp ?_
  intro W1 hW
  replace hB : Below w.heap.size w W1 := by rw [hW]; exact tacT
  have hz_W1 : w.heap.size ≤ W1.heap.size := by rw [hW]; exact sT
  replace kb_p : Blk W1 (w.heap.size) 67 #[.int .i64 a, .int .i64 b] := by rw [hW]; exact blkT
  have hLW1_p := kb_p.lt
  replace kb_q : Blk W1 (w.heap.size + 1) 67 #[.int .i64 c, .int .i64 d] := by rw [hW]; exact blkT
  have hLW1_q := kb_q.lt
  replace kb_r : Blk W1 (w.heap.size + 2) 67 #[.int .i64 0, .int .i64 0] := by rw [hW]; exact blkT
  have hLW1_r := kb_r.lt
  try clear kc_p kf_p
  try clear kc_q kf_q
  try clear kc_r kf_r
  clear hW
  refine (HF.out _ _ _).mono ?_
  rw [h1]
  rintro e w1 ⟨rfl, hb⟩
  replace hB := hB.trans (Below.mono hb hB.size)
  have hz_w1 : W1.heap.size ≤ w1.heap.size := Below.size hb
  replace kb_p := kb_p.mv hb; obtain ⟨kb_p, kc_p, kf_p, hl_p, hn_p⟩ := kb_p
  replace kb_q := kb_q.mv hb; obtain ⟨kb_q, kc_q, kf_q, hl_q, hn_q⟩ := kb_q
  replace kb_r := kb_r.mv hb; obtain ⟨kb_r, kc_r, kf_r, hl_r, hn_r⟩ := kb_r
  clear hb
  go_wp2_with fail
  refine bodyPost_ret (v := .tuple #[.agg #[.int .i64 0, .int .i64 0], .bool false]) ?_ rfl ?_
  ·simp [results, Tryz.results129, go_sem, kc_r]
  ·exact ⟨by rw [HE.out]; rfl, by exact tacT⟩
 cases h2 : fracOk c d
 ·have HE := Lib.hid (lessF_no2 (a := a) (b := b) h2)
  go_enter Tryz.func129, Tryz.ntmps129
  go_wp2_with fail
  first | refine name_world ?_ | refine name_wp ?_
  intro W1 hW
  replace hB : Below w.heap.size w W1 := by rw [hW]; exact tacT
  have hz_W1 : w.heap.size ≤ W1.heap.size := by rw [hW]; exact sT
  replace kb_p : Blk W1 (w.heap.size) 67 #[.int .i64 a, .int .i64 b] := by rw [hW]; exact blkT
  have hLW1_p := kb_p.lt
  replace kb_q : Blk W1 (w.heap.size + 1) 67 #[.int .i64 c, .int .i64 d] := by rw [hW]; exact blkT
  have hLW1_q := kb_q.lt
  replace kb_r : Blk W1 (w.heap.size + 2) 67 #[.int .i64 0, .int .i64 0] := by rw [hW]; exact blkT
  have hLW1_r := kb_r.lt
  try clear kc_p kf_p
  try clear kc_q kf_q
  try clear kc_r kf_r
  clear hW
  refine (HF.out _ _ _).mono ?_
  rw [h1]
  rintro e w1 ⟨rfl, hb⟩
  replace hB := hB.trans (Below.mono hb hB.size)
  have hz_w1 : W1.heap.size ≤ w1.heap.size := Below.size hb
  replace kb_p := kb_p.mv hb; obtain ⟨kb_p, kc_p, kf_p, hl_p, hn_p⟩ := kb_p
  replace kb_q := kb_q.mv hb; obtain ⟨kb_q, kc_q, kf_q, hl_q, hn_q⟩ := kb_q
  replace kb_r := kb_r.mv hb; obtain ⟨kb_r, kc_r, kf_r, hl_r, hn_r⟩ := kb_r
  clear hb
  go_wp2_with fail
  first | refine name_world ?_ | refine name_wp ?_
  intro W2 hW
  replace hB : Below w.heap.size w W2 := by rw [hW]; exact tacT
  have hz_W2 : w1.heap.size ≤ W2.heap.size := by rw [hW]; exact sT
  replace kb_p : Blk W2 (w.heap.size) 67 #[.int .i64 a, .int .i64 b] := by rw [hW]; exact blkT
  have hLW2_p := kb_p.lt
  replace kb_q : Blk W2 (w.heap.size + 1) 67 #[.int .i64 c, .int .i64 d] := by rw [hW]; exact blkT
  have hLW2_q := kb_q.lt
  replace kb_r : Blk W2 (w.heap.size + 2) 67 #[.int .i64 0, .int .i64 0] := by rw [hW]; exact blkT
  have hLW2_r := kb_r.lt
  try clear kc_p kf_p
  try clear kc_q kf_q
  try clear kc_r kf_r
  clear hW
  refine (HF.out _ _ _).mono ?_
  rw [h2]
  rintro e w2 ⟨rfl, hb⟩
  replace hB := hB.trans (Below.mono hb hB.size)
  have hz_w2 : W2.heap.size ≤ w2.heap.size := Below.size hb
  replace kb_p := kb_p.mv hb; obtain ⟨kb_p, kc_p, kf_p, hl_p, hn_p⟩ := kb_p
  replace kb_q := kb_q.mv hb; obtain ⟨kb_q, kc_q, kf_q, hl_q, hn_q⟩ := kb_q
  replace kb_r := kb_r.mv hb; obtain ⟨kb_r, kc_r, kf_r, hl_r, hn_r⟩ := kb_r
  clear hb
  go_wp2_with fail
  refine bodyPost_ret (v := .tuple #[.agg #[.int .i64 0, .int .i64 0], .bool false]) ?_ rfl ?_
  ·simp [results, Tryz.results129, go_sem, kc_r]
  ·exact ⟨by rw [HE.out]; rfl, by exact tacT⟩
 obtain ⟨a0, a1, b0, b1⟩ := fracOk_iff h1
 obtain ⟨c0, c1, d0, d1⟩ := fracOk_iff h2
 have m1 := mul_in a0 a1 (show 0 ≤ d by omega) d1
 have m2 := mul_in c0 c1 (show 0 ≤ b by omega) b1
 have m3 := mul_in (show 0 ≤ b by omega) b1 (show 0 ≤ d by omega) d1
 have m4 : 1 ≤ b * d := Int.mul_pos (by omega) (by omega)
 by_cases hlt : a * d < c * b
 ·have HE := Lib.hid (lessF_no3 hlt)
  have HQ : Hid (∀ W, Calls Tryz.prog 152 #[.agg #[.int .i64 a, .int .i64 b], .agg #[.int .i64 c, .int .i64 d]] W fun e w' => e = .returned (.int .i64 (-1)) ∧ Below W.heap.size W w') := fun W => by
   have := CompareFractions_ok a b c d W h1 h2
   rwa [show cmpI (a * d) (c * b) = -1 from if_pos hlt] at this
  go_enter Tryz.func129, Tryz.ntmps129
  go_wp2_with fail
  first | refine name_world ?_ | refine name_wp ?_
  intro W1 hW
  replace hB : Below w.heap.size w W1 := by rw [hW]; exact tacT
  have hz_W1 : w.heap.size ≤ W1.heap.size := by rw [hW]; exact sT
  replace kb_p : Blk W1 (w.heap.size) 67 #[.int .i64 a, .int .i64 b] := by rw [hW]; exact blkT
  have hLW1_p := kb_p.lt
  replace kb_q : Blk W1 (w.heap.size + 1) 67 #[.int .i64 c, .int .i64 d] := by rw [hW]; exact blkT
  have hLW1_q := kb_q.lt
  replace kb_r : Blk W1 (w.heap.size + 2) 67 #[.int .i64 0, .int .i64 0] := by rw [hW]; exact blkT
  have hLW1_r := kb_r.lt
  try clear kc_p kf_p
  try clear kc_q kf_q
  try clear kc_r kf_r
  clear hW
  refine (HF.out _ _ _).mono ?_
  rw [h1]
  rintro e w1 ⟨rfl, hb⟩
  replace hB := hB.trans (Below.mono hb hB.size)
  have hz_w1 : W1.heap.size ≤ w1.heap.size := Below.size hb
  replace kb_p := kb_p.mv hb; obtain ⟨kb_p, kc_p, kf_p, hl_p, hn_p⟩ := kb_p
  replace kb_q := kb_q.mv hb; obtain ⟨kb_q, kc_q, kf_q, hl_q, hn_q⟩ := kb_q
  replace kb_r := kb_r.mv hb; obtain ⟨kb_r, kc_r, kf_r, hl_r, hn_r⟩ := kb_r
  clear hb
  go_wp2_with fail
  first | refine name_world ?_ | refine name_wp ?_
  intro W2 hW
  replace hB : Below w.heap.size w W2 := by rw [hW]; exact tacT
  have hz_W2 : w1.heap.size ≤ W2.heap.size := by rw [hW]; exact sT
  replace kb_p : Blk W2 (w.heap.size) 67 #[.int .i64 a, .int .i64 b] := by rw [hW]; exact blkT
  have hLW2_p := kb_p.lt
  replace kb_q : Blk W2 (w.heap.size + 1) 67 #[.int .i64 c, .int .i64 d] := by rw [hW]; exact blkT
  have hLW2_q := kb_q.lt
  replace kb_r : Blk W2 (w.heap.size + 2) 67 #[.int .i64 0, .int .i64 0] := by rw [hW]; exact blkT
  have hLW2_r := kb_r.lt
  try clear kc_p kf_p
  try clear kc_q kf_q
  try clear kc_r kf_r
  clear hW
  refine (HF.out _ _ _).mono ?_
  rw [h2]
  rintro e w2 ⟨rfl, hb⟩
  replace hB := hB.trans (Below.mono hb hB.size)
  have hz_w2 : W2.heap.size ≤ w2.heap.size := Below.size hb
  replace kb_p := kb_p.mv hb; obtain ⟨kb_p, kc_p, kf_p, hl_p, hn_p⟩ := kb_p
  replace kb_q := kb_q.mv hb; obtain ⟨kb_q, kc_q, kf_q, hl_q, hn_q⟩ := kb_q
  replace kb_r := kb_r.mv hb; obtain ⟨kb_r, kc_r, kf_r, hl_r, hn_r⟩ := kb_r
  clear hb
  go_wp2_with fail
  first | refine name_world ?_ | refine name_wp ?_
  intro W3 hW
  replace hB : Below w.heap.size w W3 := by rw [hW]; exact tacT
  have hz_W3 : w2.heap.size ≤ W3.heap.size := by rw [hW]; exact sT
  replace kb_p : Blk W3 (w.heap.size) 67 #[.int .i64 a, .int .i64 b] := by rw [hW]; exact blkT
  have hLW3_p := kb_p.lt
  replace kb_q : Blk W3 (w.heap.size + 1) 67 #[.int .i64 c, .int .i64 d] := by rw [hW]; exact blkT
  have hLW3_q := kb_q.lt
  replace kb_r : Blk W3 (w.heap.size + 2) 67 #[.int .i64 0, .int .i64 0] := by rw [hW]; exact blkT
  have hLW3_r := kb_r.lt
  try clear kc_p kf_p
  try clear kc_q kf_q
  try clear kc_r kf_r
  clear hW
  refine (HQ.out _).mono ?_
  rintro e w3 ⟨rfl, hb⟩
  replace hB := hB.trans (Below.mono hb hB.size)
  have hz_w3 : W3.heap.size ≤ w3.heap.size := Below.size hb
  replace kb_p := kb_p.mv hb; obtain ⟨kb_p, kc_p, kf_p, hl_p, hn_p⟩ := kb_p
  replace kb_q := kb_q.mv hb; obtain ⟨kb_q, kc_q, kf_q, hl_q, hn_q⟩ := kb_q
  replace kb_r := kb_r.mv hb; obtain ⟨kb_r, kc_r, kf_r, hl_r, hn_r⟩ := kb_r
  clear hb
  go_wp2_with fail
  refine bodyPost_ret (v := .tuple #[.agg #[.int .i64 0, .int .i64 0], .bool false]) ?_ rfl ?_
  ·simp [results, Tryz.results129, go_sem, kc_r]
  ·exact ⟨by rw [HE.out]; rfl, by exact tacT⟩
 have HE := Lib.hid (lessF_yes h1 h2 hlt)
 obtain ⟨R, hR⟩ : ∃ R, R = redF (a * d - c * b).toNat (b * d).toNat := ⟨_, rfl⟩
 have HK : Hid (∀ W, Calls Tryz.prog 151 #[.int .i64 (a * d - c * b), .int .i64 (b * d)] W fun e w' => e = frRet R ∧ Below W.heap.size W w') := fun W => by rw [hR]; exact reduced_i _ _ W (by omega) (by omega) (by omega) (by omega)
 have HQ : Hid (∀ W, ∃ z : Int, ¬ z < 0 ∧ Calls Tryz.prog 152 #[.agg #[.int .i64 a, .int .i64 b], .agg #[.int .i64 c, .int .i64 d]] W fun e w' => e = .returned (.int .i64 z) ∧ Below W.heap.size W w') := fun W => ⟨cmpI (a * d) (c * b), by unfold cmpI; rw [if_neg hlt]; split <;> omega, CompareFractions_ok a b c d W h1 h2⟩
 rw [← hR] at HE
 clear hR
 go_enter Tryz.func129, Tryz.ntmps129
 go_wp2_with fail
 first | refine name_world ?_ | refine name_wp ?_
 intro W1 hW
 replace hB : Below w.heap.size w W1 := by rw [hW]; exact tacT
 have hz_W1 : w.heap.size ≤ W1.heap.size := by rw [hW]; exact sT
 replace kb_p : Blk W1 (w.heap.size) 67 #[.int .i64 a, .int .i64 b] := by rw [hW]; exact blkT
 have hLW1_p := kb_p.lt
 replace kb_q : Blk W1 (w.heap.size + 1) 67 #[.int .i64 c, .int .i64 d] := by rw [hW]; exact blkT
 have hLW1_q := kb_q.lt
 replace kb_r : Blk W1 (w.heap.size + 2) 67 #[.int .i64 0, .int .i64 0] := by rw [hW]; exact blkT
 have hLW1_r := kb_r.lt
 try clear kc_p kf_p
 try clear kc_q kf_q
 try clear kc_r kf_r
 clear hW
 refine (HF.out _ _ _).mono ?_
 rw [h1]
 rintro e w1 ⟨rfl, hb⟩
 replace hB := hB.trans (Below.mono hb hB.size)
 have hz_w1 : W1.heap.size ≤ w1.heap.size := Below.size hb
 replace kb_p := kb_p.mv hb; obtain ⟨kb_p, kc_p, kf_p, hl_p, hn_p⟩ := kb_p
 replace kb_q := kb_q.mv hb; obtain ⟨kb_q, kc_q, kf_q, hl_q, hn_q⟩ := kb_q
 replace kb_r := kb_r.mv hb; obtain ⟨kb_r, kc_r, kf_r, hl_r, hn_r⟩ := kb_r
 clear hb
 go_wp2_with fail
 first | refine name_world ?_ | refine name_wp ?_
 intro W2 hW
 replace hB : Below w.heap.size w W2 := by rw [hW]; exact tacT
 have hz_W2 : w1.heap.size ≤ W2.heap.size := by rw [hW]; exact sT
 replace kb_p : Blk W2 (w.heap.size) 67 #[.int .i64 a, .int .i64 b] := by rw [hW]; exact blkT
 have hLW2_p := kb_p.lt
 replace kb_q : Blk W2 (w.heap.size + 1) 67 #[.int .i64 c, .int .i64 d] := by rw [hW]; exact blkT
 have hLW2_q := kb_q.lt
 replace kb_r : Blk W2 (w.heap.size + 2) 67 #[.int .i64 0, .int .i64 0] := by rw [hW]; exact blkT
 have hLW2_r := kb_r.lt
 try clear kc_p kf_p
 try clear kc_q kf_q
 try clear kc_r kf_r
 clear hW
 refine (HF.out _ _ _).mono ?_
 rw [h2]
 rintro e w2 ⟨rfl, hb⟩
 replace hB := hB.trans (Below.mono hb hB.size)
 have hz_w2 : W2.heap.size ≤ w2.heap.size := Below.size hb
 replace kb_p := kb_p.mv hb; obtain ⟨kb_p, kc_p, kf_p, hl_p, hn_p⟩ := kb_p
 replace kb_q := kb_q.mv hb; obtain ⟨kb_q, kc_q, kf_q, hl_q, hn_q⟩ := kb_q
 replace kb_r := kb_r.mv hb; obtain ⟨kb_r, kc_r, kf_r, hl_r, hn_r⟩ := kb_r
 clear hb
 go_wp2_with fail
 first | refine name_world ?_ | refine name_wp ?_
 intro W3 hW
 replace hB : Below w.heap.size w W3 := by rw [hW]; exact tacT
 have hz_W3 : w2.heap.size ≤ W3.heap.size := by rw [hW]; exact sT
 replace kb_p : Blk W3 (w.heap.size) 67 #[.int .i64 a, .int .i64 b] := by rw [hW]; exact blkT
 have hLW3_p := kb_p.lt
 replace kb_q : Blk W3 (w.heap.size + 1) 67 #[.int .i64 c, .int .i64 d] := by rw [hW]; exact blkT
 have hLW3_q := kb_q.lt
 replace kb_r : Blk W3 (w.heap.size + 2) 67 #[.int .i64 0, .int .i64 0] := by rw [hW]; exact blkT
 have hLW3_r := kb_r.lt
 try clear kc_p kf_p
 try clear kc_q kf_q
 try clear kc_r kf_r
 clear hW
 obtain ⟨z, hz, hq⟩ := HQ.out W3
 have hzd : decide (z < 0) = false := by simpa using hz
 refine hq.mono ?_
 rintro e w3 ⟨rfl, hb⟩
 replace hB := hB.trans (Below.mono hb hB.size)
 have hz_w3 : W3.heap.size ≤ w3.heap.size := Below.size hb
 replace kb_p := kb_p.mv hb; obtain ⟨kb_p, kc_p, kf_p, hl_p, hn_p⟩ := kb_p
 replace kb_q := kb_q.mv hb; obtain ⟨kb_q, kc_q, kf_q, hl_q, hn_q⟩ := kb_q
 replace kb_r := kb_r.mv hb; obtain ⟨kb_r, kc_r, kf_r, hl_r, hn_r⟩ := kb_r
 clear hb
 clear hq
 go_wp2_with fail
 first | refine name_world ?_ | refine name_wp ?_
 intro W4 hW
 replace hB : Below w.heap.size w W4 := by rw [hW]; exact tacT
 have hz_W4 : w3.heap.size ≤ W4.heap.size := by rw [hW]; exact sT
 replace kb_r : Blk W4 (w.heap.size + 2) 67 #[.int .i64 0, .int .i64 0] := by rw [hW]; exact blkT
 have hLW4_r := kb_r.lt
 try clear kc_r kf_r
 clear hW
 refine (HK.out _).mono ?_
 rintro e w4 ⟨rfl, hb⟩
 unfold frRet
 replace hB := hB.trans (Below.mono hb hB.size)
 have hz_w4 : W4.heap.size ≤ w4.heap.size := Below.size hb
 replace kb_r := kb_r.mv hb; obtain ⟨kb_r, kc_r, kf_r, hl_r, hn_r⟩ := kb_r
 clear hb
 go_wp2_with fail
 refine bodyPost_ret (v := .tuple #[.agg #[.int .i64 R.1, .int .i64 R.2.1], .bool R.2.2]) ?_ rfl ?_
 ·simp [results, Tryz.results129, go_sem, kc_r]
 ·exact ⟨by rw [HE.out]; rfl, by exact tacT⟩
set_option maxHeartbeats 800000 in
theorem SplitEqually_any (t b : Int) (n : Nat) (w : World) :
  Calls Tryz.prog 134 #[.agg #[.int .i64 t, .int .i64 b], .int .i64 n] w fun e w' => e = frRet (splitF t b n) ∧ Below w.heap.size w w' := by
 have HF : Hid (∀ (t b : Int) (W : World), Calls Tryz.prog 99 #[.agg #[.int .i64 t, .int .i64 b]] W fun e w' => e = .returned (.bool (fracOk t b)) ∧ Below W.heap.size W w') := fun t b W => FractionOk_any t b W
 have hB := Below.refl w.heap.size w
 cases h1 : fracOk t b
 ·have HE := Lib.hid (splitF_no1 (n := n) h1)
  go_enter Tryz.func134, Tryz.ntmps134
  go_wp2_with fail
  first | refine name_world ?_ | refine name_wp ?_
  intro W1 hW
  replace hB : Below w.heap.size w W1 := by rw [hW]; exact tacT
  have hz_W1 : w.heap.size ≤ W1.heap.size := by rw [hW]; exact sT
  replace kb_p : Blk W1 (w.heap.size) 67 #[.int .i64 t, .int .i64 b] := by rw [hW]; exact blkT
  have hLW1_p := kb_p.lt
  replace kb_r : Blk W1 (w.heap.size + 1) 67 #[.int .i64 0, .int .i64 0] := by rw [hW]; exact blkT
  have hLW1_r := kb_r.lt
  try clear kc_p kf_p
  try clear kc_r kf_r
  clear hW
  refine (HF.out _ _ _).mono ?_
  rw [h1]
  rintro e w1 ⟨rfl, hb⟩
  replace hB := hB.trans (Below.mono hb hB.size)
  have hz_w1 : W1.heap.size ≤ w1.heap.size := Below.size hb
  replace kb_p := kb_p.mv hb; obtain ⟨kb_p, kc_p, kf_p, hl_p, hn_p⟩ := kb_p
  replace kb_r := kb_r.mv hb; obtain ⟨kb_r, kc_r, kf_r, hl_r, hn_r⟩ := kb_r
  clear hb
  go_wp2_with fail
  refine bodyPost_ret (v := .tuple #[.agg #[.int .i64 0, .int .i64 0], .bool false]) ?_ rfl ?_
  ·simp [results, Tryz.results134, go_sem, kc_r]
  ·exact ⟨by rw [HE.out]; rfl, by exact tacT⟩
 cases h2 : inB n 1 20
 ·have HE := Lib.hid (splitF_no2 (t := t) (b := b) h2)
  go_enter Tryz.func134, Tryz.ntmps134
  go_wp2_with fail
  first | refine name_world ?_ | refine name_wp ?_
  intro W1 hW
  replace hB : Below w.heap.size w W1 := by rw [hW]; exact tacT
  have hz_W1 : w.heap.size ≤ W1.heap.size := by rw [hW]; exact sT
  replace kb_p : Blk W1 (w.heap.size) 67 #[.int .i64 t, .int .i64 b] := by rw [hW]; exact blkT
  have hLW1_p := kb_p.lt
  replace kb_r : Blk W1 (w.heap.size + 1) 67 #[.int .i64 0, .int .i64 0] := by rw [hW]; exact blkT
  have hLW1_r := kb_r.lt
  try clear kc_p kf_p
  try clear kc_r kf_r
  clear hW
  refine (HF.out _ _ _).mono ?_
  rw [h1]
  rintro e w1 ⟨rfl, hb⟩
  replace hB := hB.trans (Below.mono hb hB.size)
  have hz_w1 : W1.heap.size ≤ w1.heap.size := Below.size hb
  replace kb_p := kb_p.mv hb; obtain ⟨kb_p, kc_p, kf_p, hl_p, hn_p⟩ := kb_p
  replace kb_r := kb_r.mv hb; obtain ⟨kb_r, kc_r, kf_r, hl_r, hn_r⟩ := kb_r
  clear hb
  go_wp2_with fail
  refine (within_any _ _ _ _).mono ?_
  rw [h2]
  rintro e w2 ⟨rfl, rfl⟩
  go_wp2_with fail
  refine bodyPost_ret (v := .tuple #[.agg #[.int .i64 0, .int .i64 0], .bool false]) ?_ rfl ?_
  ·simp [results, Tryz.results134, go_sem, kc_r]
  ·exact ⟨by rw [HE.out]; rfl, by exact tacT⟩
 obtain ⟨a0, a1, b0, b1⟩ := fracOk_iff h1
 obtain ⟨n0, n1⟩ := inB_iff.1 h2
 have m3 : 1 ≤ b * n := Int.mul_pos (by omega) (by omega)
 have m4 : b * n ≤ 200000 := by have := Int.mul_le_mul b1 n1 (by omega) (by omega : (0 : Int) ≤ 10000); omega
 have HE := Lib.hid (splitF_yes h1 h2)
 obtain ⟨R, hR⟩ : ∃ R, R = redF t.toNat (b * n).toNat := ⟨_, rfl⟩
 have HK : Hid (∀ W, Calls Tryz.prog 151 #[.int .i64 t, .int .i64 (b * n)] W fun e w' => e = frRet R ∧ Below W.heap.size W w') := fun W => by rw [hR]; exact reduced_i _ _ W (by omega) (by omega) (by omega) (by omega)
 rw [← hR] at HE
 clear hR
 go_enter Tryz.func134, Tryz.ntmps134
 go_wp2_with fail
 first | refine name_world ?_ | refine name_wp ?_
 intro W1 hW
 replace hB : Below w.heap.size w W1 := by rw [hW]; exact tacT
 have hz_W1 : w.heap.size ≤ W1.heap.size := by rw [hW]; exact sT
 replace kb_p : Blk W1 (w.heap.size) 67 #[.int .i64 t, .int .i64 b] := by rw [hW]; exact blkT
 have hLW1_p := kb_p.lt
 replace kb_r : Blk W1 (w.heap.size + 1) 67 #[.int .i64 0, .int .i64 0] := by rw [hW]; exact blkT
 have hLW1_r := kb_r.lt
 try clear kc_p kf_p
 try clear kc_r kf_r
 clear hW
 refine (HF.out _ _ _).mono ?_
 rw [h1]
 rintro e w1 ⟨rfl, hb⟩
 replace hB := hB.trans (Below.mono hb hB.size)
 have hz_w1 : W1.heap.size ≤ w1.heap.size := Below.size hb
 replace kb_p := kb_p.mv hb; obtain ⟨kb_p, kc_p, kf_p, hl_p, hn_p⟩ := kb_p
 replace kb_r := kb_r.mv hb; obtain ⟨kb_r, kc_r, kf_r, hl_r, hn_r⟩ := kb_r
 clear hb
 go_wp2_with fail
 refine (within_any _ _ _ _).mono ?_
 rw [h2]
 rintro e w2 ⟨rfl, rfl⟩
 go_wp2_with fail
 first | refine name_world ?_ | refine name_wp ?_
 intro W3 hW
 replace hB : Below w.heap.size w W3 := by rw [hW]; exact tacT
 have hz_W3 : w1.heap.size ≤ W3.heap.size := by rw [hW]; exact sT
 replace kb_r : Blk W3 (w.heap.size + 1) 67 #[.int .i64 0, .int .i64 0] := by rw [hW]; exact blkT
 have hLW3_r := kb_r.lt
 try clear kc_r kf_r
 clear hW
 refine (HK.out _).mono ?_
 rintro e w3 ⟨rfl, hb⟩
 unfold frRet
 replace hB := hB.trans (Below.mono hb hB.size)
 have hz_w3 : W3.heap.size ≤ w3.heap.size := Below.size hb
 replace kb_r := kb_r.mv hb; obtain ⟨kb_r, kc_r, kf_r, hl_r, hn_r⟩ := kb_r
 clear hb
 go_wp2_with fail
 refine bodyPost_ret (v := .tuple #[.agg #[.int .i64 R.1, .int .i64 R.2.1], .bool R.2.2]) ?_ rfl ?_
 ·simp [results, Tryz.results134, go_sem, kc_r, hn_r, hl_r]
 ·exact ⟨by rw [HE.out]; rfl, by exact tacT⟩
end
end Go.Proofs.YtpmmjhpmheooeaaGreatDoor
