/- Fractions: products, differences, comparisons, equal parts. -/
import Derived.Test.YtpmmjhpmheooeaaDoorKd
namespace Go.Proofs.YtpmmjhpmheooeaaDoor
set_option linter.unusedSimpArgs false
set_option linter.unusedVariables false
open Go.RowKit
set_option maxRecDepth 20000
theorem mulF_no1 {a b c d : Int} (h : fracOk a b = false) : mulF a b c d = (0, 0, false) := by unfold mulF; rw [h]; rfl
theorem mulF_no2 {a b c d : Int} (h : fracOk c d = false) : mulF a b c d = (0, 0, false) := by unfold mulF; rw [h]; simp
theorem mulF_yes {a b c d : Int} (h1 : fracOk a b = true) (h2 : fracOk c d = true) : mulF a b c d = redF (a * c).toNat (b * d).toNat := by unfold mulF; rw [h1, h2]; rfl
set_option maxHeartbeats 800000 in
theorem TimesFractionS_any (a b c d : Int) (w : World) :
    Calls Tryd.prog 46 #[.agg #[.int .i64 a, .int .i64 b], .agg #[.int .i64 c, .int .i64 d]] w fun e w' => e = frRet (mulF a b c d) ∧ Below w.heap.size w w' := by
  have HF : Hid (∀ (t b : Int) (W : World), Calls Tryd.prog 45 #[.agg #[.int .i64 t, .int .i64 b]] W fun e w' => e = .returned (.bool (fracOk t b)) ∧ Below W.heap.size W w') := fun t b W => FractionOkS_any t b W
  have hB := Below.refl w.heap.size w
  cases h1 : fracOk a b
  · have HE := Lib.hid (mulF_no1 (c := c) (d := d) h1)
    go_enter Tryd.func46, Tryd.ntmps46
    go_wp2_with fail
    first | refine name_world ?_ | refine name_wp ?_
    intro W1 hW
    replace hB : Below w.heap.size w W1 := by rw [hW]; exact tacT
    have hz_W1 : w.heap.size ≤ W1.heap.size := by rw [hW]; exact sT
    replace kb_p : Blk W1 (w.heap.size) 49 #[.int .i64 a, .int .i64 b] := by rw [hW]; exact blkT
    have hLW1_p := kb_p.lt
    replace kb_q : Blk W1 (w.heap.size + 1) 49 #[.int .i64 c, .int .i64 d] := by rw [hW]; exact blkT
    have hLW1_q := kb_q.lt
    replace kb_r : Blk W1 (w.heap.size + 2) 49 #[.int .i64 0, .int .i64 0] := by rw [hW]; exact blkT
    have hLW1_r := kb_r.lt
    try clear kc_p kf_p
    try clear kc_q kf_q
    try clear kc_r kf_r
    clear hW
    refine (HF.out _ _ _).mono ?_
    rw [h1]
    rintro e w1 ⟨rfl, hb⟩
    replace hB := hB.trans (Below.mono hb hB.size)
    have hz_w1 : W1.heap.size ≤ w1.heap.size := Below.size hb
    replace kb_p := kb_p.mv hb; obtain ⟨kb_p, kc_p, kf_p, hl_p, hn_p⟩ := kb_p
    replace kb_q := kb_q.mv hb; obtain ⟨kb_q, kc_q, kf_q, hl_q, hn_q⟩ := kb_q
    replace kb_r := kb_r.mv hb; obtain ⟨kb_r, kc_r, kf_r, hl_r, hn_r⟩ := kb_r
    clear hb
    go_wp2_with fail
    refine bodyPost_ret (v := .tuple #[.agg #[.int .i64 0, .int .i64 0], .bool false]) ?_ rfl ?_
    · simp [results, Tryd.results46, go_sem, kc_r]
    · exact ⟨by rw [HE.out]; rfl, by exact tacT⟩
  cases h2 : fracOk c d
  · have HE := Lib.hid (mulF_no2 (a := a) (b := b) h2)
    go_enter Tryd.func46, Tryd.ntmps46
    go_wp2_with fail
    first | refine name_world ?_ | refine name_wp ?_
    intro W1 hW
    replace hB : Below w.heap.size w W1 := by rw [hW]; exact tacT
    have hz_W1 : w.heap.size ≤ W1.heap.size := by rw [hW]; exact sT
    replace kb_p : Blk W1 (w.heap.size) 49 #[.int .i64 a, .int .i64 b] := by rw [hW]; exact blkT
    have hLW1_p := kb_p.lt
    replace kb_q : Blk W1 (w.heap.size + 1) 49 #[.int .i64 c, .int .i64 d] := by rw [hW]; exact blkT
    have hLW1_q := kb_q.lt
    replace kb_r : Blk W1 (w.heap.size + 2) 49 #[.int .i64 0, .int .i64 0] := by rw [hW]; exact blkT
    have hLW1_r := kb_r.lt
    try clear kc_p kf_p
    try clear kc_q kf_q
    try clear kc_r kf_r
    clear hW
    refine (HF.out _ _ _).mono ?_
    rw [h1]
    rintro e w1 ⟨rfl, hb⟩
    replace hB := hB.trans (Below.mono hb hB.size)
    have hz_w1 : W1.heap.size ≤ w1.heap.size := Below.size hb
    replace kb_p := kb_p.mv hb; obtain ⟨kb_p, kc_p, kf_p, hl_p, hn_p⟩ := kb_p
    replace kb_q := kb_q.mv hb; obtain ⟨kb_q, kc_q, kf_q, hl_q, hn_q⟩ := kb_q
    replace kb_r := kb_r.mv hb; obtain ⟨kb_r, kc_r, kf_r, hl_r, hn_r⟩ := kb_r
    clear hb
    go_wp2_with fail
    first | refine name_world ?_ | refine name_wp ?_
    intro W2 hW
    replace hB : Below w.heap.size w W2 := by rw [hW]; exact tacT
    have hz_W2 : w1.heap.size ≤ W2.heap.size := by rw [hW]; exact sT
    replace kb_p : Blk W2 (w.heap.size) 49 #[.int .i64 a, .int .i64 b] := by rw [hW]; exact blkT
    have hLW2_p := kb_p.lt
    replace kb_q : Blk W2 (w.heap.size + 1) 49 #[.int .i64 c, .int .i64 d] := by rw [hW]; exact blkT
    have hLW2_q := kb_q.lt
    replace kb_r : Blk W2 (w.heap.size + 2) 49 #[.int .i64 0, .int .i64 0] := by rw [hW]; exact blkT
    have hLW2_r := kb_r.lt
    try clear kc_p kf_p
    try clear kc_q kf_q
    try clear kc_r kf_r
    clear hW
    refine (HF.out _ _ _).mono ?_
    rw [h2]
    rintro e w2 ⟨rfl, hb⟩
    replace hB := hB.trans (Below.mono hb hB.size)
    have hz_w2 : W2.heap.size ≤ w2.heap.size := Below.size hb
    replace kb_p := kb_p.mv hb; obtain ⟨kb_p, kc_p, kf_p, hl_p, hn_p⟩ := kb_p
    replace kb_q := kb_q.mv hb; obtain ⟨kb_q, kc_q, kf_q, hl_q, hn_q⟩ := kb_q
    replace kb_r := kb_r.mv hb; obtain ⟨kb_r, kc_r, kf_r, hl_r, hn_r⟩ := kb_r
    clear hb
    go_wp2_with fail
    refine bodyPost_ret (v := .tuple #[.agg #[.int .i64 0, .int .i64 0], .bool false]) ?_ rfl ?_
    · simp [results, Tryd.results46, go_sem, kc_r]
    · exact ⟨by rw [HE.out]; rfl, by exact tacT⟩
  obtain ⟨a0, a1, b0, b1⟩ := fracOk_iff h1
  obtain ⟨c0, c1, d0, d1⟩ := fracOk_iff h2
  have m1 := mul_in a0 a1 c0 c1
  have m3 := mul_in (show 0 ≤ b by omega) b1 (show 0 ≤ d by omega) d1
  have m4 : 1 ≤ b * d := Int.mul_pos (by omega) (by omega)
  have HE := Lib.hid (mulF_yes h1 h2)
  obtain ⟨R, hR⟩ : ∃ R, R = redF (a * c).toNat (b * d).toNat := ⟨_, rfl⟩
  have HK : Hid (∀ W, Calls Tryd.prog 63 #[.int .i64 (a * c), .int .i64 (b * d)] W fun e w' => e = frRet R ∧ Below W.heap.size W w') := fun W => by
    have hm : makeF (a * c) (b * d) = R := by unfold makeF; rw [inB_iff.2 ⟨m1.1, m1.2⟩, inB_iff.2 ⟨m4, m3.2⟩, hR]; rfl
    rw [← hm]; exact MakeFractionS_any _ _ W
  rw [← hR] at HE
  clear hR
  go_enter Tryd.func46, Tryd.ntmps46
  go_wp2_with fail
  first | refine name_world ?_ | refine name_wp ?_
  intro W1 hW
  replace hB : Below w.heap.size w W1 := by rw [hW]; exact tacT
  have hz_W1 : w.heap.size ≤ W1.heap.size := by rw [hW]; exact sT
  replace kb_p : Blk W1 (w.heap.size) 49 #[.int .i64 a, .int .i64 b] := by rw [hW]; exact blkT
  have hLW1_p := kb_p.lt
  replace kb_q : Blk W1 (w.heap.size + 1) 49 #[.int .i64 c, .int .i64 d] := by rw [hW]; exact blkT
  have hLW1_q := kb_q.lt
  replace kb_r : Blk W1 (w.heap.size + 2) 49 #[.int .i64 0, .int .i64 0] := by rw [hW]; exact blkT
  have hLW1_r := kb_r.lt
  try clear kc_p kf_p
  try clear kc_q kf_q
  try clear kc_r kf_r
  clear hW
  refine (HF.out _ _ _).mono ?_
  rw [h1]
  rintro e w1 ⟨rfl, hb⟩
  replace hB := hB.trans (Below.mono hb hB.size)
  have hz_w1 : W1.heap.size ≤ w1.heap.size := Below.size hb
  replace kb_p := kb_p.mv hb; obtain ⟨kb_p, kc_p, kf_p, hl_p, hn_p⟩ := kb_p
  replace kb_q := kb_q.mv hb; obtain ⟨kb_q, kc_q, kf_q, hl_q, hn_q⟩ := kb_q
  replace kb_r := kb_r.mv hb; obtain ⟨kb_r, kc_r, kf_r, hl_r, hn_r⟩ := kb_r
  clear hb
  go_wp2_with fail
  first | refine name_world ?_ | refine name_wp ?_
  intro W2 hW
  replace hB : Below w.heap.size w W2 := by rw [hW]; exact tacT
  have hz_W2 : w1.heap.size ≤ W2.heap.size := by rw [hW]; exact sT
  replace kb_p : Blk W2 (w.heap.size) 49 #[.int .i64 a, .int .i64 b] := by rw [hW]; exact blkT
  have hLW2_p := kb_p.lt
  replace kb_q : Blk W2 (w.heap.size + 1) 49 #[.int .i64 c, .int .i64 d] := by rw [hW]; exact blkT
  have hLW2_q := kb_q.lt
  replace kb_r : Blk W2 (w.heap.size + 2) 49 #[.int .i64 0, .int .i64 0] := by rw [hW]; exact blkT
  have hLW2_r := kb_r.lt
  try clear kc_p kf_p
  try clear kc_q kf_q
  try clear kc_r kf_r
  clear hW
  refine (HF.out _ _ _).mono ?_
  rw [h2]
  rintro e w2 ⟨rfl, hb⟩
  replace hB := hB.trans (Below.mono hb hB.size)
  have hz_w2 : W2.heap.size ≤ w2.heap.size := Below.size hb
  replace kb_p := kb_p.mv hb; obtain ⟨kb_p, kc_p, kf_p, hl_p, hn_p⟩ := kb_p
  replace kb_q := kb_q.mv hb; obtain ⟨kb_q, kc_q, kf_q, hl_q, hn_q⟩ := kb_q
  replace kb_r := kb_r.mv hb; obtain ⟨kb_r, kc_r, kf_r, hl_r, hn_r⟩ := kb_r
  clear hb
  go_wp2_with fail
  first | refine name_world ?_ | refine name_wp ?_
  intro W3 hW
  replace hB : Below w.heap.size w W3 := by rw [hW]; exact tacT
  have hz_W3 : w2.heap.size ≤ W3.heap.size := by rw [hW]; exact sT
  replace kb_r : Blk W3 (w.heap.size + 2) 49 #[.int .i64 0, .int .i64 0] := by rw [hW]; exact blkT
  have hLW3_r := kb_r.lt
  try clear kc_r kf_r
  clear hW
  refine (HK.out _).mono ?_
  rintro e w3 ⟨rfl, hb⟩
  unfold frRet
  replace hB := hB.trans (Below.mono hb hB.size)
  have hz_w3 : W3.heap.size ≤ w3.heap.size := Below.size hb
  replace kb_r := kb_r.mv hb; obtain ⟨kb_r, kc_r, kf_r, hl_r, hn_r⟩ := kb_r
  clear hb
  go_wp2_with fail
  refine bodyPost_ret (v := .tuple #[.agg #[.int .i64 R.1, .int .i64 R.2.1], .bool R.2.2]) ?_ rfl ?_
  · simp [results, Tryd.results46, go_sem, kc_r, hn_r, hl_r]
  · exact ⟨by rw [HE.out]; rfl, by exact tacT⟩
theorem lessF_no1 {a b c d : Int} (h : fracOk a b = false) : lessF a b c d = (0, 0, false) := by unfold lessF; rw [h]; rfl
theorem lessF_no2 {a b c d : Int} (h : fracOk c d = false) : lessF a b c d = (0, 0, false) := by unfold lessF; rw [h]; simp
theorem lessF_no3 {a b c d : Int} (h : a * d < c * b) : lessF a b c d = (0, 0, false) := by unfold lessF; rw [decide_eq_true h]; simp
theorem lessF_yes {a b c d : Int} (h1 : fracOk a b = true) (h2 : fracOk c d = true) (h : ¬ a * d < c * b) : lessF a b c d = redF (a * d - c * b).toNat (b * d).toNat := by unfold lessF; rw [h1, h2, decide_eq_false h]; rfl
theorem splitF_no1 {t b : Int} {n : Nat} (h : fracOk t b = false) : splitF t b n = (0, 0, false) := by unfold splitF; rw [h]; rfl
theorem splitF_no2 {t b : Int} {n : Nat} (h : inB n 1 20 = false) : splitF t b n = (0, 0, false) := by unfold splitF; rw [h]; simp
theorem splitF_yes {t b : Int} {n : Nat} (h1 : fracOk t b = true) (h2 : inB n 1 20 = true) : splitF t b n = redF t.toNat (b * n).toNat := by unfold splitF; rw [h1, h2]; rfl
def cmpI (x y : Int) : Int := if x < y then -1 else if y < x then 1 else 0
end Go.Proofs.YtpmmjhpmheooeaaDoor
