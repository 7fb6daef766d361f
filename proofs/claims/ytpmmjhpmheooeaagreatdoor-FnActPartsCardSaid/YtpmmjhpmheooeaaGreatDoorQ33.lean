/- Texts of the proof, joined: FormatAct, PaPure. -/
import Derived.Test.YtpmmjhpmheooeaaGreatDoorQ31
import Derived.Test.YtpmmjhpmheooeaaGreatDoorQ20
import Derived.Test.YtpmmjhpmheooeaaGreatDoorQ32
namespace Go.Proofs.YtpmmjhpmheooeaaGreatDoor
set_option linter.unusedSimpArgs false
set_option linter.unusedVariables false
section
open Go.RowKit
set_option maxRecDepth 20000
/-- The word of a kind of act. -/
def actWord (k : Int) : List UInt8 :=
 if k = 1 then [114, 97, 105, 110] else if k = 2 then [100, 114, 105, 110, 107] else if k = 3 then [108, 101, 97, 107]
 else if k = 4 then [115, 101, 108, 108] else if k = 5 then [104, 101, 105, 114, 115] else [109, 97, 121]
def actTwo (k : Int) : Bool := k == 2 || k == 4 || k == 5
def actText (k a b : Int) : List UInt8 :=
 if actOk k a b then actWord k ++ 32 :: (Lib.itoa a ++ (if actTwo k then 32 :: Lib.itoa b else [])) else []
theorem actText_no {k a b : Int} (h : actOk k a b = false) : actText k a b = [] := by unfold actText; rw [h]; rfl
theorem actText_one {k a b : Int} (h : actOk k a b = true) (h2 : actTwo k = false) : actText k a b = actWord k ++ 32 :: Lib.itoa a := by
 unfold actText; rw [h, h2]; simp
theorem actText_two {k a b : Int} (h : actOk k a b = true) (h2 : actTwo k = true) : actText k a b = actWord k ++ 32 :: (Lib.itoa a ++ 32 :: Lib.itoa b) := by
 unfold actText; rw [h, h2]; simp
theorem actOk_cases {k a b : Int} (h : actOk k a b = true) : (k = 1 ∨ k = 2 ∨ k = 3 ∨ k = 4 ∨ k = 5 ∨ k = 6) ∧ 0 ≤ a ∧ a ≤ 1000 ∧ 0 ≤ b ∧ b ≤ 1000 := by
 unfold actOk at h
 split at h
 ·simp only [Bool.and_eq_true, inB_iff, beq_iff_eq] at h; omega
 split at h
 ·simp only [Bool.and_eq_true, inB_iff] at h; omega
 split at h
 ·simp only [Bool.and_eq_true, inB_iff] at h; omega
 split at h
 ·simp only [Bool.and_eq_true, inB_iff] at h; omega
 split at h
 ·simp only [Bool.and_eq_true, inB_iff, beq_iff_eq] at h; omega
 ·cases h
theorem sv_one (w a : List UInt8) : Value.string (⟨w.toArray⟩ ++ (⟨#[32]⟩ ++ ⟨a.toArray⟩)) = sv (w ++ 32 :: a) := by
 refine congrArg _ (ByteArray.ext ?_)
 simp
theorem sv_two (w a b : List UInt8) : Value.string (⟨w.toArray⟩ ++ (⟨#[32]⟩ ++ ⟨a.toArray⟩ ++ ⟨#[32]⟩ ++ ⟨b.toArray⟩)) = sv (w ++ 32 :: (a ++ 32 :: b)) := by
 refine congrArg _ (ByteArray.ext ?_)
 simp
theorem act_len {a : Int} (h : 0 ≤ a ∧ a ≤ 1000) : (Lib.itoa a).length ≤ 20 := itoa_len (n := a) (by omega) (by omega)
set_option maxHeartbeats 3200000 in
theorem FormatAct_no (x y z : Int) (w : World) (hk : actOk x y z = false) :
  Calls Tryz.prog 34 #[.agg #[.int .i64 x, .int .i64 y, .int .i64 z]] w fun e w' => e = .returned (.tuple #[sv (actText x y z), .bool (actOk x y z)]) ∧ Below w.heap.size w w' := by
 have hB := Below.refl w.heap.size w
 have E := Lib.hid (actText_no hk)
 have HC := Lib.hid (fun W => ActOk_any x y z W)
 have HK := Lib.hid hk
 rw [hk] at HC
 clear hk
 go_enter Tryz.func34, Tryz.ntmps34
 go_wp2_with fail
 first | refine name_world ?_ | refine name_wp ?_
 intro W1 hW
 replace hB : Below w.heap.size w W1 := by rw [hW]; exact tacT
 have hz_W1 : w.heap.size ≤ W1.heap.size := by rw [hW]; exact sT
 replace kb_p : Blk W1 (w.heap.size) 50 #[.int .i64 x, .int .i64 y, .int .i64 z] := by rw [hW]; exact blkT
 have hLW1_p := kb_p.lt
 try clear kc_p kf_p
 clear hW
 refine (HC.out _).mono ?_
 rintro e w1 ⟨rfl, hb⟩
 replace hB := hB.trans (Below.mono hb hB.size)
 have hz_w1 : W1.heap.size ≤ w1.heap.size := Below.size hb
 replace kb_p := kb_p.mv hb; obtain ⟨kb_p, kc_p, kf_p, hl_p, hn_p⟩ := kb_p
 clear hb
 go_wp2_with fail
 exact bodyPost_ret (v := .tuple #[sv [], .bool false]) (by simp [results, Tryz.results34, go_sem]) rfl ⟨by rw [E.out, HK.out], hB⟩
set_option maxHeartbeats 3200000 in
theorem FormatAct_k1 (y z : Int) (w : World) (ht : Tab w) (hk : actOk (1 : Int) y z = true) :
  Calls Tryz.prog 34 #[.agg #[.int .i64 1, .int .i64 y, .int .i64 z]] w fun e w' => e = .returned (.tuple #[sv (actText (1 : Int) y z), .bool true]) ∧ Below w.heap.size w w' := by
 have hB := Below.refl w.heap.size w
 obtain ⟨_, hy0, hy1, hz0, hz1⟩ := actOk_cases hk
 have hly := act_len ⟨hy0, hy1⟩
 have hlz := act_len ⟨hz0, hz1⟩
 have HC := Lib.hid (fun W => ActOk_any (1 : Int) y z W)
 rw [hk] at HC
 have E1 := Lib.hid (fun h => actText_one (k := (1 : Int)) hk h)
 have E2 := Lib.hid (fun h => actText_two (k := (1 : Int)) hk h)
 have c1 : ¬ 9223372036854775807 < 1 + (Lib.itoa y).length := by omega
 have c2 : ¬ 9223372036854775807 < 1 + (Lib.itoa y).length + 1 := by omega
 have c3 : ¬ 9223372036854775807 < 1 + (Lib.itoa y).length + 1 + (Lib.itoa z).length := by omega
 clear hk
 go_enter Tryz.func34, Tryz.ntmps34
 go_wp2_with fail
 first | refine name_world ?_ | refine name_wp ?_
 intro W1 hW
 replace hB : Below w.heap.size w W1 := by rw [hW]; exact tacT
 have hz_W1 : w.heap.size ≤ W1.heap.size := by rw [hW]; exact sT
 replace kb_p : Blk W1 (w.heap.size) 50 #[.int .i64 1, .int .i64 y, .int .i64 z] := by rw [hW]; exact blkT
 have hLW1_p := kb_p.lt
 try clear kc_p kf_p
 clear hW
 refine (HC.out _).mono ?_
 rintro e w1 ⟨rfl, hb⟩
 replace hB := hB.trans (Below.mono hb hB.size)
 have hz_w1 : W1.heap.size ≤ w1.heap.size := Below.size hb
 replace kb_p := kb_p.mv hb; obtain ⟨kb_p, kc_p, kf_p, hl_p, hn_p⟩ := kb_p
 clear hb
 have HT := Lib.hid (ht.below hB)
 go_wp2_with fail
 refine (FormatInt_t _ _ (by omega) HT.out).mono ?_
 rintro e w2 ⟨rfl, hb⟩
 replace hB := hB.trans (Below.mono hb hB.size)
 have hz_w2 : w1.heap.size ≤ w2.heap.size := Below.size hb
 replace kb_p := kb_p.mv hb; obtain ⟨kb_p, kc_p, kf_p, hl_p, hn_p⟩ := kb_p
 clear hb
 have HT2 := Lib.hid (ht.below hB)
 go_wp2_with fail
 refine (FormatInt_t _ _ (by omega) HT2.out).mono ?_
 rintro e w3 ⟨rfl, hb⟩
 replace hB := hB.trans (Below.mono hb hB.size)
 have hz_w3 : w2.heap.size ≤ w3.heap.size := Below.size hb
 replace kb_p := kb_p.mv hb; obtain ⟨kb_p, kc_p, kf_p, hl_p, hn_p⟩ := kb_p
 clear hb
 go_wp2_with fail
 first
  |exact bodyPost_ret (v := .tuple #[sv (actWord (1 : Int) ++ 32 :: Lib.itoa y), .bool true]) (by simp [results, Tryz.results34, go_sem]; exact Value.string.inj (sv_one _ _)) rfl ⟨by rw [E1.out rfl], hB⟩
  |exact bodyPost_ret (v := .tuple #[sv (actWord (1 : Int) ++ 32 :: (Lib.itoa y ++ 32 :: Lib.itoa z)), .bool true]) (by simp [results, Tryz.results34, go_sem]; exact Value.string.inj (sv_two _ _ _)) rfl ⟨by rw [E2.out rfl], hB⟩
set_option maxHeartbeats 3200000 in
theorem FormatAct_k2 (y z : Int) (w : World) (ht : Tab w) (hk : actOk (2 : Int) y z = true) :
  Calls Tryz.prog 34 #[.agg #[.int .i64 2, .int .i64 y, .int .i64 z]] w fun e w' => e = .returned (.tuple #[sv (actText (2 : Int) y z), .bool true]) ∧ Below w.heap.size w w' := by
 have hB := Below.refl w.heap.size w
 obtain ⟨_, hy0, hy1, hz0, hz1⟩ := actOk_cases hk
 have hly := act_len ⟨hy0, hy1⟩
 have hlz := act_len ⟨hz0, hz1⟩
 have HC := Lib.hid (fun W => ActOk_any (2 : Int) y z W)
 rw [hk] at HC
 have E1 := Lib.hid (fun h => actText_one (k := (2 : Int)) hk h)
 have E2 := Lib.hid (fun h => actText_two (k := (2 : Int)) hk h)
 have c1 : ¬ 9223372036854775807 < 1 + (Lib.itoa y).length := by omega
 have c2 : ¬ 9223372036854775807 < 1 + (Lib.itoa y).length + 1 := by omega
 have c3 : ¬ 9223372036854775807 < 1 + (Lib.itoa y).length + 1 + (Lib.itoa z).length := by omega
 clear hk
 go_enter Tryz.func34, Tryz.ntmps34
 go_wp2_with fail
 first | refine name_world ?_ | refine name_wp ?_
 intro W1 hW
 replace hB : Below w.heap.size w W1 := by rw [hW]; exact tacT
 have hz_W1 : w.heap.size ≤ W1.heap.size := by rw [hW]; exact sT
 replace kb_p : Blk W1 (w.heap.size) 50 #[.int .i64 2, .int .i64 y, .int .i64 z] := by rw [hW]; exact blkT
 have hLW1_p := kb_p.lt
 try clear kc_p kf_p
 clear hW
 refine (HC.out _).mono ?_
 rintro e w1 ⟨rfl, hb⟩
 replace hB := hB.trans (Below.mono hb hB.size)
 have hz_w1 : W1.heap.size ≤ w1.heap.size := Below.size hb
 replace kb_p := kb_p.mv hb; obtain ⟨kb_p, kc_p, kf_p, hl_p, hn_p⟩ := kb_p
 clear hb
 have HT := Lib.hid (ht.below hB)
 go_wp2_with fail
 refine (FormatInt_t _ _ (by omega) HT.out).mono ?_
 rintro e w2 ⟨rfl, hb⟩
 replace hB := hB.trans (Below.mono hb hB.size)
 have hz_w2 : w1.heap.size ≤ w2.heap.size := Below.size hb
 replace kb_p := kb_p.mv hb; obtain ⟨kb_p, kc_p, kf_p, hl_p, hn_p⟩ := kb_p
 clear hb
 have HT2 := Lib.hid (ht.below hB)
 go_wp2_with fail
 refine (FormatInt_t _ _ (by omega) HT2.out).mono ?_
 rintro e w3 ⟨rfl, hb⟩
 replace hB := hB.trans (Below.mono hb hB.size)
 have hz_w3 : w2.heap.size ≤ w3.heap.size := Below.size hb
 replace kb_p := kb_p.mv hb; obtain ⟨kb_p, kc_p, kf_p, hl_p, hn_p⟩ := kb_p
 clear hb
 go_wp2_with fail
 first
  |exact bodyPost_ret (v := .tuple #[sv (actWord (2 : Int) ++ 32 :: Lib.itoa y), .bool true]) (by simp [results, Tryz.results34, go_sem]; exact Value.string.inj (sv_one _ _)) rfl ⟨by rw [E1.out rfl], hB⟩
  |exact bodyPost_ret (v := .tuple #[sv (actWord (2 : Int) ++ 32 :: (Lib.itoa y ++ 32 :: Lib.itoa z)), .bool true]) (by simp [results, Tryz.results34, go_sem]; exact Value.string.inj (sv_two _ _ _)) rfl ⟨by rw [E2.out rfl], hB⟩
set_option maxHeartbeats 3200000 in
theorem FormatAct_k3 (y z : Int) (w : World) (ht : Tab w) (hk : actOk (3 : Int) y z = true) :
  Calls Tryz.prog 34 #[.agg #[.int .i64 3, .int .i64 y, .int .i64 z]] w fun e w' => e = .returned (.tuple #[sv (actText (3 : Int) y z), .bool true]) ∧ Below w.heap.size w w' := by
 have hB := Below.refl w.heap.size w
 obtain ⟨_, hy0, hy1, hz0, hz1⟩ := actOk_cases hk
 have hly := act_len ⟨hy0, hy1⟩
 have hlz := act_len ⟨hz0, hz1⟩
 have HC := Lib.hid (fun W => ActOk_any (3 : Int) y z W)
 rw [hk] at HC
 have E1 := Lib.hid (fun h => actText_one (k := (3 : Int)) hk h)
 have E2 := Lib.hid (fun h => actText_two (k := (3 : Int)) hk h)
 have c1 : ¬ 9223372036854775807 < 1 + (Lib.itoa y).length := by omega
 have c2 : ¬ 9223372036854775807 < 1 + (Lib.itoa y).length + 1 := by omega
 have c3 : ¬ 9223372036854775807 < 1 + (Lib.itoa y).length + 1 + (Lib.itoa z).length := by omega
 clear hk
 go_enter Tryz.func34, Tryz.ntmps34
 go_wp2_with fail
 first | refine name_world ?_ | refine name_wp ?_
 intro W1 hW
 replace hB : Below w.heap.size w W1 := by rw [hW]; exact tacT
 have hz_W1 : w.heap.size ≤ W1.heap.size := by rw [hW]; exact sT
 replace kb_p : Blk W1 (w.heap.size) 50 #[.int .i64 3, .int .i64 y, .int .i64 z] := by rw [hW]; exact blkT
 have hLW1_p := kb_p.lt
 try clear kc_p kf_p
 clear hW
 refine (HC.out _).mono ?_
 rintro e w1 ⟨rfl, hb⟩
 replace hB := hB.trans (Below.mono hb hB.size)
 have hz_w1 : W1.heap.size ≤ w1.heap.size := Below.size hb
 replace kb_p := kb_p.mv hb; obtain ⟨kb_p, kc_p, kf_p, hl_p, hn_p⟩ := kb_p
 clear hb
 have HT := Lib.hid (ht.below hB)
 go_wp2_with fail
 refine (FormatInt_t _ _ (by omega) HT.out).mono ?_
 rintro e w2 ⟨rfl, hb⟩
 replace hB := hB.trans (Below.mono hb hB.size)
 have hz_w2 : w1.heap.size ≤ w2.heap.size := Below.size hb
 replace kb_p := kb_p.mv hb; obtain ⟨kb_p, kc_p, kf_p, hl_p, hn_p⟩ := kb_p
 clear hb
 have HT2 := Lib.hid (ht.below hB)
 go_wp2_with fail
 refine (FormatInt_t _ _ (by omega) HT2.out).mono ?_
 rintro e w3 ⟨rfl, hb⟩
 replace hB := hB.trans (Below.mono hb hB.size)
 have hz_w3 : w2.heap.size ≤ w3.heap.size := Below.size hb
 replace kb_p := kb_p.mv hb; obtain ⟨kb_p, kc_p, kf_p, hl_p, hn_p⟩ := kb_p
 clear hb
 go_wp2_with fail
 first
  |exact bodyPost_ret (v := .tuple #[sv (actWord (3 : Int) ++ 32 :: Lib.itoa y), .bool true]) (by simp [results, Tryz.results34, go_sem]; exact Value.string.inj (sv_one _ _)) rfl ⟨by rw [E1.out rfl], hB⟩
  |exact bodyPost_ret (v := .tuple #[sv (actWord (3 : Int) ++ 32 :: (Lib.itoa y ++ 32 :: Lib.itoa z)), .bool true]) (by simp [results, Tryz.results34, go_sem]; exact Value.string.inj (sv_two _ _ _)) rfl ⟨by rw [E2.out rfl], hB⟩
set_option maxHeartbeats 3200000 in
theorem FormatAct_k4 (y z : Int) (w : World) (ht : Tab w) (hk : actOk (4 : Int) y z = true) :
  Calls Tryz.prog 34 #[.agg #[.int .i64 4, .int .i64 y, .int .i64 z]] w fun e w' => e = .returned (.tuple #[sv (actText (4 : Int) y z), .bool true]) ∧ Below w.heap.size w w' := by
 have hB := Below.refl w.heap.size w
 obtain ⟨_, hy0, hy1, hz0, hz1⟩ := actOk_cases hk
 have hly := act_len ⟨hy0, hy1⟩
 have hlz := act_len ⟨hz0, hz1⟩
 have HC := Lib.hid (fun W => ActOk_any (4 : Int) y z W)
 rw [hk] at HC
 have E1 := Lib.hid (fun h => actText_one (k := (4 : Int)) hk h)
 have E2 := Lib.hid (fun h => actText_two (k := (4 : Int)) hk h)
 have c1 : ¬ 9223372036854775807 < 1 + (Lib.itoa y).length := by omega
 have c2 : ¬ 9223372036854775807 < 1 + (Lib.itoa y).length + 1 := by omega
 have c3 : ¬ 9223372036854775807 < 1 + (Lib.itoa y).length + 1 + (Lib.itoa z).length := by omega
 clear hk
 go_enter Tryz.func34, Tryz.ntmps34
 go_wp2_with fail
 first | refine name_world ?_ | refine name_wp ?_
 intro W1 hW
 replace hB : Below w.heap.size w W1 := by rw [hW]; exact tacT
 have hz_W1 : w.heap.size ≤ W1.heap.size := by rw [hW]; exact sT
 replace kb_p : Blk W1 (w.heap.size) 50 #[.int .i64 4, .int .i64 y, .int .i64 z] := by rw [hW]; exact blkT
 have hLW1_p := kb_p.lt
 try clear kc_p kf_p
 clear hW
 refine (HC.out _).mono ?_
 rintro e w1 ⟨rfl, hb⟩
 replace hB := hB.trans (Below.mono hb hB.size)
 have hz_w1 : W1.heap.size ≤ w1.heap.size := Below.size hb
 replace kb_p := kb_p.mv hb; obtain ⟨kb_p, kc_p, kf_p, hl_p, hn_p⟩ := kb_p
 clear hb
 have HT := Lib.hid (ht.below hB)
 go_wp2_with fail
 refine (FormatInt_t _ _ (by omega) HT.out).mono ?_
 rintro e w2 ⟨rfl, hb⟩
 replace hB := hB.trans (Below.mono hb hB.size)
 have hz_w2 : w1.heap.size ≤ w2.heap.size := Below.size hb
 replace kb_p := kb_p.mv hb; obtain ⟨kb_p, kc_p, kf_p, hl_p, hn_p⟩ := kb_p
 clear hb
 have HT2 := Lib.hid (ht.below hB)
 go_wp2_with fail
 refine (FormatInt_t _ _ (by omega) HT2.out).mono ?_
 rintro e w3 ⟨rfl, hb⟩
 replace hB := hB.trans (Below.mono hb hB.size)
 have hz_w3 : w2.heap.size ≤ w3.heap.size := Below.size hb
 replace kb_p := kb_p.mv hb; obtain ⟨kb_p, kc_p, kf_p, hl_p, hn_p⟩ := kb_p
 clear hb
 go_wp2_with fail
 first
  |exact bodyPost_ret (v := .tuple #[sv (actWord (4 : Int) ++ 32 :: Lib.itoa y), .bool true]) (by simp [results, Tryz.results34, go_sem]; exact Value.string.inj (sv_one _ _)) rfl ⟨by rw [E1.out rfl], hB⟩
  |exact bodyPost_ret (v := .tuple #[sv (actWord (4 : Int) ++ 32 :: (Lib.itoa y ++ 32 :: Lib.itoa z)), .bool true]) (by simp [results, Tryz.results34, go_sem]; exact Value.string.inj (sv_two _ _ _)) rfl ⟨by rw [E2.out rfl], hB⟩
set_option maxHeartbeats 3200000 in
theorem FormatAct_k5 (y z : Int) (w : World) (ht : Tab w) (hk : actOk (5 : Int) y z = true) :
  Calls Tryz.prog 34 #[.agg #[.int .i64 5, .int .i64 y, .int .i64 z]] w fun e w' => e = .returned (.tuple #[sv (actText (5 : Int) y z), .bool true]) ∧ Below w.heap.size w w' := by
 have hB := Below.refl w.heap.size w
 obtain ⟨_, hy0, hy1, hz0, hz1⟩ := actOk_cases hk
 have hly := act_len ⟨hy0, hy1⟩
 have hlz := act_len ⟨hz0, hz1⟩
 have HC := Lib.hid (fun W => ActOk_any (5 : Int) y z W)
 rw [hk] at HC
 have E1 := Lib.hid (fun h => actText_one (k := (5 : Int)) hk h)
 have E2 := Lib.hid (fun h => actText_two (k := (5 : Int)) hk h)
 have c1 : ¬ 9223372036854775807 < 1 + (Lib.itoa y).length := by omega
 have c2 : ¬ 9223372036854775807 < 1 + (Lib.itoa y).length + 1 := by omega
 have c3 : ¬ 9223372036854775807 < 1 + (Lib.itoa y).length + 1 + (Lib.itoa z).length := by omega
 clear hk
 go_enter Tryz.func34, Tryz.ntmps34
 go_wp2_with fail
 first | refine name_world ?_ | refine name_wp ?_
 intro W1 hW
 replace hB : Below w.heap.size w W1 := by rw [hW]; exact tacT
 have hz_W1 : w.heap.size ≤ W1.heap.size := by rw [hW]; exact sT
 replace kb_p : Blk W1 (w.heap.size) 50 #[.int .i64 5, .int .i64 y, .int .i64 z] := by rw [hW]; exact blkT
 have hLW1_p := kb_p.lt
 try clear kc_p kf_p
 clear hW
 refine (HC.out _).mono ?_
 rintro e w1 ⟨rfl, hb⟩
 replace hB := hB.trans (Below.mono hb hB.size)
 have hz_w1 : W1.heap.size ≤ w1.heap.size := Below.size hb
 replace kb_p := kb_p.mv hb; obtain ⟨kb_p, kc_p, kf_p, hl_p, hn_p⟩ := kb_p
 clear hb
 have HT := Lib.hid (ht.below hB)
 go_wp2_with fail
 refine (FormatInt_t _ _ (by omega) HT.out).mono ?_
 rintro e w2 ⟨rfl, hb⟩
 replace hB := hB.trans (Below.mono hb hB.size)
 have hz_w2 : w1.heap.size ≤ w2.heap.size := Below.size hb
 replace kb_p := kb_p.mv hb; obtain ⟨kb_p, kc_p, kf_p, hl_p, hn_p⟩ := kb_p
 clear hb
 have HT2 := Lib.hid (ht.below hB)
 go_wp2_with fail
 refine (FormatInt_t _ _ (by omega) HT2.out).mono ?_
 rintro e w3 ⟨rfl, hb⟩
 replace hB := hB.trans (Below.mono hb hB.size)
 have hz_w3 : w2.heap.size ≤ w3.heap.size := Below.size hb
 replace kb_p := kb_p.mv hb; obtain ⟨kb_p, kc_p, kf_p, hl_p, hn_p⟩ := kb_p
 clear hb
 go_wp2_with fail
 first
  |exact bodyPost_ret (v := .tuple #[sv (actWord (5 : Int) ++ 32 :: Lib.itoa y), .bool true]) (by simp [results, Tryz.results34, go_sem]; exact Value.string.inj (sv_one _ _)) rfl ⟨by rw [E1.out rfl], hB⟩
  |exact bodyPost_ret (v := .tuple #[sv (actWord (5 : Int) ++ 32 :: (Lib.itoa y ++ 32 :: Lib.itoa z)), .bool true]) (by simp [results, Tryz.results34, go_sem]; exact Value.string.inj (sv_two _ _ _)) rfl ⟨by rw [E2.out rfl], hB⟩
set_option maxHeartbeats 3200000 in
theorem FormatAct_k6 (y z : Int) (w : World) (ht : Tab w) (hk : actOk (6 : Int) y z = true) :
  Calls Tryz.prog 34 #[.agg #[.int .i64 6, .int .i64 y, .int .i64 z]] w fun e w' => e = .returned (.tuple #[sv (actText (6 : Int) y z), .bool true]) ∧ Below w.heap.size w w' := by
 have hB := Below.refl w.heap.size w
 obtain ⟨_, hy0, hy1, hz0, hz1⟩ := actOk_cases hk
 have hly := act_len ⟨hy0, hy1⟩
 have hlz := act_len ⟨hz0, hz1⟩
 have HC := Lib.hid (fun W => ActOk_any (6 : Int) y z W)
 rw [hk] at HC
 have E1 := Lib.hid (fun h => actText_one (k := (6 : Int)) hk h)
 have E2 := Lib.hid (fun h => actText_two (k := (6 : Int)) hk h)
 have c1 : ¬ 9223372036854775807 < 1 + (Lib.itoa y).length := by omega
 have c2 : ¬ 9223372036854775807 < 1 + (Lib.itoa y).length + 1 := by omega
 have c3 : ¬ 9223372036854775807 < 1 + (Lib.itoa y).length + 1 + (Lib.itoa z).length := by omega
 clear hk
 go_enter Tryz.func34, Tryz.ntmps34
 go_wp2_with fail
 first | refine name_world ?_ | refine name_wp ?_
 intro W1 hW
 replace hB : Below w.heap.size w W1 := by rw [hW]; exact tacT
 have hz_W1 : w.heap.size ≤ W1.heap.size := by rw [hW]; exact sT
 replace kb_p : Blk W1 (w.heap.size) 50 #[.int .i64 6, .int .i64 y, .int .i64 z] := by rw [hW]; exact blkT
 have hLW1_p := kb_p.lt
 try clear kc_p kf_p
 clear hW
 refine (HC.out _).mono ?_
 rintro e w1 ⟨rfl, hb⟩
 replace hB := hB.trans (Below.mono hb hB.size)
 have hz_w1 : W1.heap.size ≤ w1.heap.size := Below.size hb
 replace kb_p := kb_p.mv hb; obtain ⟨kb_p, kc_p, kf_p, hl_p, hn_p⟩ := kb_p
 clear hb
 have HT := Lib.hid (ht.below hB)
 go_wp2_with fail
 refine (FormatInt_t _ _ (by omega) HT.out).mono ?_
 rintro e w2 ⟨rfl, hb⟩
 replace hB := hB.trans (Below.mono hb hB.size)
 have hz_w2 : w1.heap.size ≤ w2.heap.size := Below.size hb
 replace kb_p := kb_p.mv hb; obtain ⟨kb_p, kc_p, kf_p, hl_p, hn_p⟩ := kb_p
 clear hb
 have HT2 := Lib.hid (ht.below hB)
 go_wp2_with fail
 refine (FormatInt_t _ _ (by omega) HT2.out).mono ?_
 rintro e w3 ⟨rfl, hb⟩
 replace hB := hB.trans (Below.mono hb hB.size)
 have hz_w3 : w2.heap.size ≤ w3.heap.size := Below.size hb
 replace kb_p := kb_p.mv hb; obtain ⟨kb_p, kc_p, kf_p, hl_p, hn_p⟩ := kb_p
 clear hb
 go_wp2_with fail
 first
  |exact bodyPost_ret (v := .tuple #[sv (actWord (6 : Int) ++ 32 :: Lib.itoa y), .bool true]) (by simp [results, Tryz.results34, go_sem]; exact Value.string.inj (sv_one _ _)) rfl ⟨by rw [E1.out rfl], hB⟩
  |exact bodyPost_ret (v := .tuple #[sv (actWord (6 : Int) ++ 32 :: (Lib.itoa y ++ 32 :: Lib.itoa z)), .bool true]) (by simp [results, Tryz.results34, go_sem]; exact Value.string.inj (sv_two _ _ _)) rfl ⟨by rw [E2.out rfl], hB⟩
theorem FormatAct_any (x y z : Int) (w : World) (ht : Tab w) :
  Calls Tryz.prog 34 #[.agg #[.int .i64 x, .int .i64 y, .int .i64 z]] w fun e w' => e = .returned (.tuple #[sv (actText x y z), .bool (actOk x y z)]) ∧ Below w.heap.size w w' := by
 cases hk : actOk x y z
 ·have := FormatAct_no x y z w hk
  rw [hk] at this
  exact this
 ·rcases (actOk_cases hk).1 with rfl | rfl | rfl | rfl | rfl | rfl
  ·exact FormatAct_k1 y z w ht hk
  ·exact FormatAct_k2 y z w ht hk
  ·exact FormatAct_k3 y z w ht hk
  ·exact FormatAct_k4 y z w ht hk
  ·exact FormatAct_k5 y z w ht hk
  ·exact FormatAct_k6 y z w ht hk
end
section
open Go.RowKit
set_option maxRecDepth 20000
def kindOf (f : List UInt8) : Int :=
 if f = [114, 97, 105, 110] then 1 else if f = [100, 114, 105, 110, 107] then 2 else if f = [108, 101, 97, 107] then 3 else if f = [115, 101, 108, 108] then 4 else if f = [104, 101, 105, 114, 115] then 5 else if f = [109, 97, 121] then 6 else 0
theorem kind_word {k : Int} (h : k = 1 ∨ k = 2 ∨ k = 3 ∨ k = 4 ∨ k = 5 ∨ k = 6) : kindOf (actWord k) = k ∧ actWord k ≠ [] ∧ ∀ b ∈ actWord k, b ≠ 32 := by
 rcases h with rfl | rfl | rfl | rfl | rfl | rfl <;> exact ⟨by decide, by decide, by decide⟩
/-- The parts of an act's text. -/
def actParts (k a b : Int) : List (List UInt8) := actWord k :: Lib.itoa a :: (if actTwo k then [Lib.itoa b] else [])
theorem act_join {k a b : Int} (h : actOk k a b = true) : actText k a b = Lib.join (actParts k a b) [32] := by
 unfold actParts
 cases h2 : actTwo k
 ·rw [actText_one h h2]
  rw [Lib.join_cons]
  simp [Lib.joinTail]
 ·rw [actText_two h h2]
  rw [Lib.join_cons]
  simp [Lib.joinTail]
theorem itoa_ne (n : Nat) : Lib.itoa (n : Int) ≠ [] := by
 intro h
 have := pu_empty
 have h1 := dec_val n n (Nat.le_refl _)
 rw [itoa_nat] at h
 by_cases hn : n < 10
 ·rw [dec_small hn] at h; cases h
 ·rw [dec_big hn] at h
  have := congrArg List.length h
  simp at this
theorem act_parts_ok {k a b : Int} (h : actOk k a b = true) : ∀ y ∈ actParts k a b, y ≠ [] ∧ ∀ c ∈ y, c ≠ 32 := by
 obtain ⟨hk, ha0, ha1, hb0, hb1⟩ := actOk_cases h
 have hi : ∀ n : Int, 0 ≤ n → (Lib.itoa n ≠ [] ∧ ∀ c ∈ Lib.itoa n, c ≠ 32) := fun n hn => by
  obtain ⟨m, rfl⟩ := Int.eq_ofNat_of_zero_le hn
  exact ⟨itoa_ne m, itoa_noc d32⟩
 intro y hy
 unfold actParts at hy
 rcases List.mem_cons.1 hy with rfl | hy
 ·exact (kind_word hk).2
 ·rcases List.mem_cons.1 hy with rfl | hy
  ·exact hi a ha0
  ·split at hy
   ·rw [List.mem_singleton] at hy
    subst hy
    exact hi b hb0
   ·cases hy
def paA (fs : List (List UInt8)) : Int := (puVal (fs.getD 1 []) : Int)
def paB (fs : List (List UInt8)) : Int := (puVal (fs.getD 2 []) : Int)
def paK (fs : List (List UInt8)) : Int := kindOf (fs.getD 0 [])
def paOkF (fs : List (List UInt8)) : Bool := decide (1 ≤ fs.length ∧ fs.length ≤ 3) && (fs.drop 1).all puOk && (actOk (paK fs) (paA fs) (paB fs) && decide (actText (paK fs) (paA fs) (paB fs) = Lib.join fs [32]))
def paI (t : List UInt8) : Bool := sfOk t && paOkF (sfX t)
/-- What reading a line yields. -/
def paX (t : List UInt8) : T3 := if paI t then ⟨paK (sfX t), paA (sfX t), paB (sfX t)⟩ else ⟨0, 0, 0⟩
theorem paX_no {t : List UInt8} (h : paI t = false) : paX t = ⟨0, 0, 0⟩ ∧ paI t = false := ⟨by unfold paX; rw [h]; rfl, h⟩
theorem paX_yes {t : List UInt8} (h : paI t = true) : paX t = ⟨paK (sfX t), paA (sfX t), paB (sfX t)⟩ ∧ paI t = true := ⟨by unfold paX; rw [h]; rfl, h⟩
theorem pu_act {a : Int} (h0 : 0 ≤ a) (h1 : a ≤ 1000) : puOk (Lib.itoa a) = true ∧ (puVal (Lib.itoa a) : Int) = a := by
 obtain ⟨m, rfl⟩ := Int.eq_ofNat_of_zero_le h0
 have := pu_itoa (n := m) (by omega)
 exact ⟨this.1, by rw [this.2]⟩
theorem act_two_zero {k a b : Int} (h : actOk k a b = true) (h2 : actTwo k = false) : b = 0 := by
 rcases (actOk_cases h).1 with rfl | rfl | rfl | rfl | rfl | rfl
 ·unfold actOk at h; simp at h; exact h.2
 ·cases h2
 ·unfold actOk at h; simp at h; exact h.2
 ·cases h2
 ·cases h2
 ·unfold actOk at h; simp at h; exact h.2
/-- The fields of an act's text. -/
theorem pa_of {k a b : Int} (h : actOk k a b = true) : paOkF (actParts k a b) = true ∧ paK (actParts k a b) = k ∧ paA (actParts k a b) = a ∧ paB (actParts k a b) = b := by
 obtain ⟨hk, ha0, ha1, hb0, hb1⟩ := actOk_cases h
 have h1 := pu_act ha0 ha1
 have h2 := pu_act hb0 hb1
 have eK : paK (actParts k a b) = k := (kind_word hk).1
 have eA : paA (actParts k a b) = a := h1.2
 have eB : paB (actParts k a b) = b := by
  unfold paB actParts
  cases ht : actTwo k
  ·show (puVal [] : Int) = b
   rw [puVal_no pu_empty, act_two_zero h ht]; rfl
  ·exact h2.2
 refine ⟨?_, eK, eA, eB⟩
 unfold paOkF
 rw [eK, eA, eB, h, act_join h]
 unfold actParts
 cases actTwo k <;> simp [h1.1, h2.1]
/-- An act's text, with spaces about it, is read back. -/
theorem pchar_itoa (n : Nat) : ∀ b ∈ Lib.itoa (n : Int), pchar b = true := by
 intro b hb
 rw [itoa_nat] at hb
 have := List.all_eq_true.1 (dec_digs n n (Nat.le_refl _)) b hb
 unfold dig at this
 unfold pchar
 simp only [Bool.and_eq_true, decide_eq_true_eq] at this ⊢
 omega
theorem word_pchar {k : Int} (h : k = 1 ∨ k = 2 ∨ k = 3 ∨ k = 4 ∨ k = 5 ∨ k = 6) : (actWord k).all pchar = true := by
 rcases h with rfl | rfl | rfl | rfl | rfl | rfl <;> decide
theorem act_pchar {k a b : Int} (h : actOk k a b = true) : (actText k a b).all pchar = true := by
 obtain ⟨hk, ha0, ha1, hb0, hb1⟩ := actOk_cases h
 have hi : ∀ n : Int, 0 ≤ n → (Lib.itoa n).all pchar = true := fun n hn => by
  obtain ⟨m, rfl⟩ := Int.eq_ofNat_of_zero_le hn
  exact List.all_eq_true.2 (pchar_itoa m)
 have h32 : pchar 32 = true := by decide
 cases h2 : actTwo k
 ·rw [actText_one h h2, List.all_append, List.all_cons, word_pchar hk, h32, hi a ha0]; rfl
 ·rw [actText_two h h2, List.all_append, List.all_cons, List.all_append, List.all_cons, word_pchar hk, h32, hi a ha0, hi b hb0]; rfl
theorem fl_act {k a b : Int} (h : actOk k a b = true) : fl (actText k a b) [] = actParts k a b := by
 rw [act_join h]
 exact fl_join _ (act_parts_ok h)
theorem parts_len (k a b : Int) : 1 ≤ (actParts k a b).length ∧ (actParts k a b).length ≤ 3 := by
 unfold actParts
 split <;> simp
theorem pa_any {t : List UInt8} {k a b : Int} (h : actOk k a b = true) (hl : t.length ≤ 600) (hp : t.all pchar = true) (hf : fl t [] = actParts k a b) : paI t = true ∧ paX t = ⟨k, a, b⟩ ∧ sfX t ≠ [] := by
 have hn := parts_len k a b
 have hs : sfOk t = true := sf_good hl hp (by rw [hf]; omega)
 have hx : sfX t = actParts k a b := by rw [(sfX_yes hs).1, hf]
 have hi := pa_of h
 have hI : paI t = true := by unfold paI; rw [hs, hx, hi.1]; rfl
 refine ⟨hI, ?_, ?_⟩
 ·rw [(paX_yes hI).1, hx, hi.2.1, hi.2.2.1, hi.2.2.2]
 ·rw [hx]; intro e; rw [e] at hn; simp at hn
theorem act_len50 (k a b : Int) : (actText k a b).length ≤ 60 := by
 unfold actText
 split
 ·rename_i h
  obtain ⟨hk, ha0, ha1, hb0, hb1⟩ := actOk_cases h
  have h1 := act_len ⟨ha0, ha1⟩
  have h2 := act_len ⟨hb0, hb1⟩
  have h3 : (actWord k).length ≤ 5 := by rcases hk with rfl | rfl | rfl | rfl | rfl | rfl <;> decide
  split <;> simp only [List.length_append, List.length_cons, List.length_nil] <;> omega
 ·simp
theorem pa_plain {k a b : Int} (h : actOk k a b = true) : paI (actText k a b) = true ∧ paX (actText k a b) = ⟨k, a, b⟩ ∧ sfX (actText k a b) ≠ [] :=
 pa_any h (by have := act_len50 k a b; omega) (act_pchar h) (fl_act h)
end
end Go.Proofs.YtpmmjhpmheooeaaGreatDoor
