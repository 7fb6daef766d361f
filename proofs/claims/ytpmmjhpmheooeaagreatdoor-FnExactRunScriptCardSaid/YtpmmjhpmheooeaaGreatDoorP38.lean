/- Texts of the proof, joined: FormatAct. -/
import Derived.Test.YtpmmjhpmheooeaaGreatDoorP35
import Derived.Test.YtpmmjhpmheooeaaGreatDoorP6
namespace Go.Proofs.YtpmmjhpmheooeaaGreatDoor
set_option linter.unusedSimpArgs false
set_option linter.unusedVariables false
section
open Go.RowKit
set_option maxRecDepth 20000
/-- The word of a kind of act. -/
def actWord (k : Int) : List UInt8 :=
 if k = 1 then [114, 97, 105, 110] else if k = 2 then [100, 114, 105, 110, 107] else if k = 3 then [108, 101, 97, 107]
 else if k = 4 then [115, 101, 108, 108] else if k = 5 then [104, 101, 105, 114, 115] else [109, 97, 121]
def actTwo (k : Int) : Bool := k == 2 || k == 4 || k == 5
def actText (k a b : Int) : List UInt8 :=
 if actOk k a b then actWord k ++ 32 :: (Lib.itoa a ++ (if actTwo k then 32 :: Lib.itoa b else [])) else []
theorem actText_no {k a b : Int} (h : actOk k a b = false) : actText k a b = [] := by unfold actText; rw [h]; rfl
theorem actText_one {k a b : Int} (h : actOk k a b = true) (h2 : actTwo k = false) : actText k a b = actWord k ++ 32 :: Lib.itoa a := by
 unfold actText; rw [h, h2]; simp
theorem actText_two {k a b : Int} (h : actOk k a b = true) (h2 : actTwo k = true) : actText k a b = actWord k ++ 32 :: (Lib.itoa a ++ 32 :: Lib.itoa b) := by
 unfold actText; rw [h, h2]; simp
theorem actOk_cases {k a b : Int} (h : actOk k a b = true) : (k = 1 ∨ k = 2 ∨ k = 3 ∨ k = 4 ∨ k = 5 ∨ k = 6) ∧ 0 ≤ a ∧ a ≤ 1000 ∧ 0 ≤ b ∧ b ≤ 1000 := by
 unfold actOk at h
 split at h
 ·simp only [Bool.and_eq_true, inB_iff, beq_iff_eq] at h; omega
 split at h
 ·simp only [Bool.and_eq_true, inB_iff] at h; omega
 split at h
 ·simp only [Bool.and_eq_true, inB_iff] at h; omega
 split at h
 ·simp only [Bool.and_eq_true, inB_iff] at h; omega
 split at h
 ·simp only [Bool.and_eq_true, inB_iff, beq_iff_eq] at h; omega
 ·cases h
theorem sv_one (w a : List UInt8) : Value.string (⟨w.toArray⟩ ++ (⟨#[32]⟩ ++ ⟨a.toArray⟩)) = sv (w ++ 32 :: a) := by
 refine congrArg _ (ByteArray.ext ?_)
 simp
theorem sv_two (w a b : List UInt8) : Value.string (⟨w.toArray⟩ ++ (⟨#[32]⟩ ++ ⟨a.toArray⟩ ++ ⟨#[32]⟩ ++ ⟨b.toArray⟩)) = sv (w ++ 32 :: (a ++ 32 :: b)) := by
 refine congrArg _ (ByteArray.ext ?_)
 simp
theorem sv_oneS (w a : List UInt8) : Value.string (⟨w.toArray⟩ ++ ⟨#[32]⟩ ++ ⟨a.toArray⟩) = sv (w ++ 32 :: a) := by
 refine congrArg _ (ByteArray.ext ?_)
 simp
theorem sv_twoS' (w a b : List UInt8) : Value.string (⟨(w ++ 32 :: a).toArray⟩ ++ ⟨#[32]⟩ ++ ⟨b.toArray⟩) = sv (w ++ 32 :: (a ++ 32 :: b)) := by
 refine congrArg _ (ByteArray.ext ?_)
 simp
theorem act_len {a : Int} (h : 0 ≤ a ∧ a ≤ 1000) : (Lib.itoa a).length ≤ 20 := itoa_len (n := a) (by omega) (by omega)
set_option maxHeartbeats 3200000 in
theorem FormatAct_no (x y z : Int) (w : World) (hk : actOk x y z = false) :
  Calls Tryz.prog 34 #[.agg #[.int .i64 x, .int .i64 y, .int .i64 z]] w fun e w' => e = .returned (.tuple #[sv (actText x y z), .bool (actOk x y z)]) ∧ Below w.heap.size w w' := by
 have hB := Below.refl w.heap.size w
 have E := Lib.hid (actText_no hk)
 have HC := Lib.hid (fun W => ActOk_any x y z W)
 have HK := Lib.hid hk
 rw [hk] at HC
 clear hk
 go_enter Tryz.func34, Tryz.ntmps34
 go_wp2_with fail
 first | refine name_world ?_ | refine name_wp ?_
 intro W1 hW
 replace hB : Below w.heap.size w W1 := by rw [hW]; exact tacT
 have hz_W1 : w.heap.size ≤ W1.heap.size := by rw [hW]; exact sT
 replace kb_p : Blk W1 (w.heap.size) 50 #[.int .i64 x, .int .i64 y, .int .i64 z] := by rw [hW]; exact blkT
 have hLW1_p := kb_p.lt
 try clear kc_p kf_p
 clear hW
 refine (HC.out _).mono ?_
 rintro e w1 ⟨rfl, hb⟩
 replace hB := hB.trans (Below.mono hb hB.size)
 have hz_w1 : W1.heap.size ≤ w1.heap.size := Below.size hb
 replace kb_p := kb_p.mv hb; obtain ⟨kb_p, kc_p, kf_p, hl_p, hn_p⟩ := kb_p
 clear hb
 go_wp2_with fail
 exact bodyPost_ret (v := .tuple #[sv [], .bool false]) (by simp [results, Tryz.results34, go_sem]) rfl ⟨by rw [E.out, HK.out], hB⟩
set_option maxHeartbeats 3200000 in
theorem FormatAct_k1 (y z : Int) (w : World) (ht : Tab w) (hk : actOk (1 : Int) y z = true) :
  Calls Tryz.prog 34 #[.agg #[.int .i64 1, .int .i64 y, .int .i64 z]] w fun e w' => e = .returned (.tuple #[sv (actText (1 : Int) y z), .bool true]) ∧ Below w.heap.size w w' := by
 have hB := Below.refl w.heap.size w
 obtain ⟨_, hy0, hy1, hz0, hz1⟩ := actOk_cases hk
 have hly := act_len ⟨hy0, hy1⟩
 have hlz := act_len ⟨hz0, hz1⟩
 have HC := Lib.hid (fun W => ActOk_any (1 : Int) y z W)
 rw [hk] at HC
 have E1 := Lib.hid (fun h => actText_one (k := (1 : Int)) hk h)
 have E2 := Lib.hid (fun h => actText_two (k := (1 : Int)) hk h)
 have c1 : ¬ 9223372036854775807 < 1 + (Lib.itoa y).length := by omega
 have c2 : ¬ 9223372036854775807 < 1 + (Lib.itoa y).length + 1 := by omega
 have c3 : ¬ 9223372036854775807 < 1 + (Lib.itoa y).length + 1 + (Lib.itoa z).length := by omega
 clear hk
 go_enter Tryz.func34, Tryz.ntmps34
 go_wp2_with fail
 first | refine name_world ?_ | refine name_wp ?_
 intro W1 hW
 replace hB : Below w.heap.size w W1 := by rw [hW]; exact tacT
 have hz_W1 : w.heap.size ≤ W1.heap.size := by rw [hW]; exact sT
 replace kb_p : Blk W1 (w.heap.size) 50 #[.int .i64 1, .int .i64 y, .int .i64 z] := by rw [hW]; exact blkT
 have hLW1_p := kb_p.lt
 try clear kc_p kf_p
 clear hW
 refine (HC.out _).mono ?_
 rintro e w1 ⟨rfl, hb⟩
 replace hB := hB.trans (Below.mono hb hB.size)
 have hz_w1 : W1.heap.size ≤ w1.heap.size := Below.size hb
 replace kb_p := kb_p.mv hb; obtain ⟨kb_p, kc_p, kf_p, hl_p, hn_p⟩ := kb_p
 clear hb
 have HT := Lib.hid (ht.below hB)
 go_wp2_with fail
 refine (FormatInt_t _ _ (by omega) HT.out).mono ?_
 rintro e w2 ⟨rfl, hb⟩
 replace hB := hB.trans (Below.mono hb hB.size)
 have hz_w2 : w1.heap.size ≤ w2.heap.size := Below.size hb
 replace kb_p := kb_p.mv hb; obtain ⟨kb_p, kc_p, kf_p, hl_p, hn_p⟩ := kb_p
 clear hb
 have HT2 := Lib.hid (ht.below hB)
 go_wp2_with fail
 refine (FormatInt_t _ _ (by omega) HT2.out).mono ?_
 rintro e w3 ⟨rfl, hb⟩
 replace hB := hB.trans (Below.mono hb hB.size)
 have hz_w3 : w2.heap.size ≤ w3.heap.size := Below.size hb
 replace kb_p := kb_p.mv hb; obtain ⟨kb_p, kc_p, kf_p, hl_p, hn_p⟩ := kb_p
 clear hb
 go_wp2_with fail
 first
  |exact bodyPost_ret (v := .tuple #[sv (actWord (1 : Int) ++ 32 :: Lib.itoa y), .bool true]) (by simp [results, Tryz.results34, go_sem]; exact Value.string.inj (sv_one _ _)) rfl ⟨by rw [E1.out rfl], hB⟩
  |exact bodyPost_ret (v := .tuple #[sv (actWord (1 : Int) ++ 32 :: (Lib.itoa y ++ 32 :: Lib.itoa z)), .bool true]) (by simp [results, Tryz.results34, go_sem]; exact Value.string.inj (sv_two _ _ _)) rfl ⟨by rw [E2.out rfl], hB⟩
set_option maxHeartbeats 3200000 in
theorem FormatAct_k2 (y z : Int) (w : World) (ht : Tab w) (hk : actOk (2 : Int) y z = true) :
  Calls Tryz.prog 34 #[.agg #[.int .i64 2, .int .i64 y, .int .i64 z]] w fun e w' => e = .returned (.tuple #[sv (actText (2 : Int) y z), .bool true]) ∧ Below w.heap.size w w' := by
 have hB := Below.refl w.heap.size w
 obtain ⟨_, hy0, hy1, hz0, hz1⟩ := actOk_cases hk
 have hly := act_len ⟨hy0, hy1⟩
 have hlz := act_len ⟨hz0, hz1⟩
 have HC := Lib.hid (fun W => ActOk_any (2 : Int) y z W)
 rw [hk] at HC
 have E1 := Lib.hid (fun h => actText_one (k := (2 : Int)) hk h)
 have E2 := Lib.hid (fun h => actText_two (k := (2 : Int)) hk h)
 have c1 : ¬ 9223372036854775807 < 1 + (Lib.itoa y).length := by omega
 have c2 : ¬ 9223372036854775807 < 1 + (Lib.itoa y).length + 1 := by omega
 have c3 : ¬ 9223372036854775807 < 1 + (Lib.itoa y).length + 1 + (Lib.itoa z).length := by omega
 clear hk
 go_enter Tryz.func34, Tryz.ntmps34
 go_wp2_with fail
 first | refine name_world ?_ | refine name_wp ?_
 intro W1 hW
 replace hB : Below w.heap.size w W1 := by rw [hW]; exact tacT
 have hz_W1 : w.heap.size ≤ W1.heap.size := by rw [hW]; exact sT
 replace kb_p : Blk W1 (w.heap.size) 50 #[.int .i64 2, .int .i64 y, .int .i64 z] := by rw [hW]; exact blkT
 have hLW1_p := kb_p.lt
 try clear kc_p kf_p
 clear hW
 refine (HC.out _).mono ?_
 rintro e w1 ⟨rfl, hb⟩
 replace hB := hB.trans (Below.mono hb hB.size)
 have hz_w1 : W1.heap.size ≤ w1.heap.size := Below.size hb
 replace kb_p := kb_p.mv hb; obtain ⟨kb_p, kc_p, kf_p, hl_p, hn_p⟩ := kb_p
 clear hb
 have HT := Lib.hid (ht.below hB)
 go_wp2_with fail
 refine (FormatInt_t _ _ (by omega) HT.out).mono ?_
 rintro e w2 ⟨rfl, hb⟩
 replace hB := hB.trans (Below.mono hb hB.size)
 have hz_w2 : w1.heap.size ≤ w2.heap.size := Below.size hb
 replace kb_p := kb_p.mv hb; obtain ⟨kb_p, kc_p, kf_p, hl_p, hn_p⟩ := kb_p
 clear hb
 have HT2 := Lib.hid (ht.below hB)
 go_wp2_with fail
 refine (FormatInt_t _ _ (by omega) HT2.out).mono ?_
 rintro e w3 ⟨rfl, hb⟩
 replace hB := hB.trans (Below.mono hb hB.size)
 have hz_w3 : w2.heap.size ≤ w3.heap.size := Below.size hb
 replace kb_p := kb_p.mv hb; obtain ⟨kb_p, kc_p, kf_p, hl_p, hn_p⟩ := kb_p
 clear hb
 go_wp2_with fail
 first
  |exact bodyPost_ret (v := .tuple #[sv (actWord (2 : Int) ++ 32 :: Lib.itoa y), .bool true]) (by simp [results, Tryz.results34, go_sem]; exact Value.string.inj (sv_one _ _)) rfl ⟨by rw [E1.out rfl], hB⟩
  |exact bodyPost_ret (v := .tuple #[sv (actWord (2 : Int) ++ 32 :: (Lib.itoa y ++ 32 :: Lib.itoa z)), .bool true]) (by simp [results, Tryz.results34, go_sem]; exact Value.string.inj (sv_two _ _ _)) rfl ⟨by rw [E2.out rfl], hB⟩
set_option maxHeartbeats 3200000 in
theorem FormatAct_k3 (y z : Int) (w : World) (ht : Tab w) (hk : actOk (3 : Int) y z = true) :
  Calls Tryz.prog 34 #[.agg #[.int .i64 3, .int .i64 y, .int .i64 z]] w fun e w' => e = .returned (.tuple #[sv (actText (3 : Int) y z), .bool true]) ∧ Below w.heap.size w w' := by
 have hB := Below.refl w.heap.size w
 obtain ⟨_, hy0, hy1, hz0, hz1⟩ := actOk_cases hk
 have hly := act_len ⟨hy0, hy1⟩
 have hlz := act_len ⟨hz0, hz1⟩
 have HC := Lib.hid (fun W => ActOk_any (3 : Int) y z W)
 rw [hk] at HC
 have E1 := Lib.hid (fun h => actText_one (k := (3 : Int)) hk h)
 have E2 := Lib.hid (fun h => actText_two (k := (3 : Int)) hk h)
 have c1 : ¬ 9223372036854775807 < 1 + (Lib.itoa y).length := by omega
 have c2 : ¬ 9223372036854775807 < 1 + (Lib.itoa y).length + 1 := by omega
 have c3 : ¬ 9223372036854775807 < 1 + (Lib.itoa y).length + 1 + (Lib.itoa z).length := by omega
 clear hk
 go_enter Tryz.func34, Tryz.ntmps34
 go_wp2_with fail
 first | refine name_world ?_ | refine name_wp ?_
 intro W1 hW
 replace hB : Below w.heap.size w W1 := by rw [hW]; exact tacT
 have hz_W1 : w.heap.size ≤ W1.heap.size := by rw [hW]; exact sT
 replace kb_p : Blk W1 (w.heap.size) 50 #[.int .i64 3, .int .i64 y, .int .i64 z] := by rw [hW]; exact blkT
 have hLW1_p := kb_p.lt
 try clear kc_p kf_p
 clear hW
 refine (HC.out _).mono ?_
 rintro e w1 ⟨rfl, hb⟩
 replace hB := hB.trans (Below.mono hb hB.size)
 have hz_w1 : W1.heap.size ≤ w1.heap.size := Below.size hb
 replace kb_p := kb_p.mv hb; obtain ⟨kb_p, kc_p, kf_p, hl_p, hn_p⟩ := kb_p
 clear hb
 have HT := Lib.hid (ht.below hB)
 go_wp2_with fail
 refine (FormatInt_t _ _ (by omega) HT.out).mono ?_
 rintro e w2 ⟨rfl, hb⟩
 replace hB := hB.trans (Below.mono hb hB.size)
 have hz_w2 : w1.heap.size ≤ w2.heap.size := Below.size hb
 replace kb_p := kb_p.mv hb; obtain ⟨kb_p, kc_p, kf_p, hl_p, hn_p⟩ := kb_p
 clear hb
 have HT2 := Lib.hid (ht.below hB)
 go_wp2_with fail
 refine (FormatInt_t _ _ (by omega) HT2.out).mono ?_
 rintro e w3 ⟨rfl, hb⟩
 replace hB := hB.trans (Below.mono hb hB.size)
 have hz_w3 : w2.heap.size ≤ w3.heap.size := Below.size hb
 replace kb_p := kb_p.mv hb; obtain ⟨kb_p, kc_p, kf_p, hl_p, hn_p⟩ := kb_p
 clear hb
 go_wp2_with fail
 first
  |exact bodyPost_ret (v := .tuple #[sv (actWord (3 : Int) ++ 32 :: Lib.itoa y), .bool true]) (by simp [results, Tryz.results34, go_sem]; exact Value.string.inj (sv_one _ _)) rfl ⟨by rw [E1.out rfl], hB⟩
  |exact bodyPost_ret (v := .tuple #[sv (actWord (3 : Int) ++ 32 :: (Lib.itoa y ++ 32 :: Lib.itoa z)), .bool true]) (by simp [results, Tryz.results34, go_sem]; exact Value.string.inj (sv_two _ _ _)) rfl ⟨by rw [E2.out rfl], hB⟩
set_option maxHeartbeats 3200000 in
theorem FormatAct_k4 (y z : Int) (w : World) (ht : Tab w) (hk : actOk (4 : Int) y z = true) :
  Calls Tryz.prog 34 #[.agg #[.int .i64 4, .int .i64 y, .int .i64 z]] w fun e w' => e = .returned (.tuple #[sv (actText (4 : Int) y z), .bool true]) ∧ Below w.heap.size w w' := by
 have hB := Below.refl w.heap.size w
 obtain ⟨_, hy0, hy1, hz0, hz1⟩ := actOk_cases hk
 have hly := act_len ⟨hy0, hy1⟩
 have hlz := act_len ⟨hz0, hz1⟩
 have HC := Lib.hid (fun W => ActOk_any (4 : Int) y z W)
 rw [hk] at HC
 have E1 := Lib.hid (fun h => actText_one (k := (4 : Int)) hk h)
 have E2 := Lib.hid (fun h => actText_two (k := (4 : Int)) hk h)
 have c1 : ¬ 9223372036854775807 < 1 + (Lib.itoa y).length := by omega
 have c2 : ¬ 9223372036854775807 < 1 + (Lib.itoa y).length + 1 := by omega
 have c3 : ¬ 9223372036854775807 < 1 + (Lib.itoa y).length + 1 + (Lib.itoa z).length := by omega
 clear hk
 go_enter Tryz.func34, Tryz.ntmps34
 go_wp2_with fail
 first | refine name_world ?_ | refine name_wp ?_
 intro W1 hW
 replace hB : Below w.heap.size w W1 := by rw [hW]; exact tacT
 have hz_W1 : w.heap.size ≤ W1.heap.size := by rw [hW]; exact sT
 replace kb_p : Blk W1 (w.heap.size) 50 #[.int .i64 4, .int .i64 y, .int .i64 z] := by rw [hW]; exact blkT
 have hLW1_p := kb_p.lt
 try clear kc_p kf_p
 clear hW
 refine (HC.out _).mono ?_
 rintro e w1 ⟨rfl, hb⟩
 replace hB := hB.trans (Below.mono hb hB.size)
 have hz_w1 : W1.heap.size ≤ w1.heap.size := Below.size hb
 replace kb_p := kb_p.mv hb; obtain ⟨kb_p, kc_p, kf_p, hl_p, hn_p⟩ := kb_p
 clear hb
 have HT := Lib.hid (ht.below hB)
 go_wp2_with fail
 refine (FormatInt_t _ _ (by omega) HT.out).mono ?_
 rintro e w2 ⟨rfl, hb⟩
 replace hB := hB.trans (Below.mono hb hB.size)
 have hz_w2 : w1.heap.size ≤ w2.heap.size := Below.size hb
 replace kb_p := kb_p.mv hb; obtain ⟨kb_p, kc_p, kf_p, hl_p, hn_p⟩ := kb_p
 clear hb
 have HT2 := Lib.hid (ht.below hB)
 go_wp2_with fail
 refine (FormatInt_t _ _ (by omega) HT2.out).mono ?_
 rintro e w3 ⟨rfl, hb⟩
 replace hB := hB.trans (Below.mono hb hB.size)
 have hz_w3 : w2.heap.size ≤ w3.heap.size := Below.size hb
 replace kb_p := kb_p.mv hb; obtain ⟨kb_p, kc_p, kf_p, hl_p, hn_p⟩ := kb_p
 clear hb
 go_wp2_with fail
 first
  |exact bodyPost_ret (v := .tuple #[sv (actWord (4 : Int) ++ 32 :: Lib.itoa y), .bool true]) (by simp [results, Tryz.results34, go_sem]; exact Value.string.inj (sv_one _ _)) rfl ⟨by rw [E1.out rfl], hB⟩
  |exact bodyPost_ret (v := .tuple #[sv (actWord (4 : Int) ++ 32 :: (Lib.itoa y ++ 32 :: Lib.itoa z)), .bool true]) (by simp [results, Tryz.results34, go_sem]; exact Value.string.inj (sv_two _ _ _)) rfl ⟨by rw [E2.out rfl], hB⟩
set_option maxHeartbeats 3200000 in
theorem FormatAct_k5 (y z : Int) (w : World) (ht : Tab w) (hk : actOk (5 : Int) y z = true) :
  Calls Tryz.prog 34 #[.agg #[.int .i64 5, .int .i64 y, .int .i64 z]] w fun e w' => e = .returned (.tuple #[sv (actText (5 : Int) y z), .bool true]) ∧ Below w.heap.size w w' := by
 have hB := Below.refl w.heap.size w
 obtain ⟨_, hy0, hy1, hz0, hz1⟩ := actOk_cases hk
 have hly := act_len ⟨hy0, hy1⟩
 have hlz := act_len ⟨hz0, hz1⟩
 have HC := Lib.hid (fun W => ActOk_any (5 : Int) y z W)
 rw [hk] at HC
 have E1 := Lib.hid (fun h => actText_one (k := (5 : Int)) hk h)
 have E2 := Lib.hid (fun h => actText_two (k := (5 : Int)) hk h)
 have c1 : ¬ 9223372036854775807 < 1 + (Lib.itoa y).length := by omega
 have c2 : ¬ 9223372036854775807 < 1 + (Lib.itoa y).length + 1 := by omega
 have c3 : ¬ 9223372036854775807 < 1 + (Lib.itoa y).length + 1 + (Lib.itoa z).length := by omega
 clear hk
 go_enter Tryz.func34, Tryz.ntmps34
 go_wp2_with fail
 first | refine name_world ?_ | refine name_wp ?_
 intro W1 hW
 replace hB : Below w.heap.size w W1 := by rw [hW]; exact tacT
 have hz_W1 : w.heap.size ≤ W1.heap.size := by rw [hW]; exact sT
 replace kb_p : Blk W1 (w.heap.size) 50 #[.int .i64 5, .int .i64 y, .int .i64 z] := by rw [hW]; exact blkT
 have hLW1_p := kb_p.lt
 try clear kc_p kf_p
 clear hW
 refine (HC.out _).mono ?_
 rintro e w1 ⟨rfl, hb⟩
 replace hB := hB.trans (Below.mono hb hB.size)
 have hz_w1 : W1.heap.size ≤ w1.heap.size := Below.size hb
 replace kb_p := kb_p.mv hb; obtain ⟨kb_p, kc_p, kf_p, hl_p, hn_p⟩ := kb_p
 clear hb
 have HT := Lib.hid (ht.below hB)
 go_wp2_with fail
 refine (FormatInt_t _ _ (by omega) HT.out).mono ?_
 rintro e w2 ⟨rfl, hb⟩
 replace hB := hB.trans (Below.mono hb hB.size)
 have hz_w2 : w1.heap.size ≤ w2.heap.size := Below.size hb
 replace kb_p := kb_p.mv hb; obtain ⟨kb_p, kc_p, kf_p, hl_p, hn_p⟩ := kb_p
 clear hb
 have HT2 := Lib.hid (ht.below hB)
 go_wp2_with fail
 refine (FormatInt_t _ _ (by omega) HT2.out).mono ?_
 rintro e w3 ⟨rfl, hb⟩
 replace hB := hB.trans (Below.mono hb hB.size)
 have hz_w3 : w2.heap.size ≤ w3.heap.size := Below.size hb
 replace kb_p := kb_p.mv hb; obtain ⟨kb_p, kc_p, kf_p, hl_p, hn_p⟩ := kb_p
 clear hb
 go_wp2_with fail
 first
  |exact bodyPost_ret (v := .tuple #[sv (actWord (5 : Int) ++ 32 :: Lib.itoa y), .bool true]) (by simp [results, Tryz.results34, go_sem]; exact Value.string.inj (sv_one _ _)) rfl ⟨by rw [E1.out rfl], hB⟩
  |exact bodyPost_ret (v := .tuple #[sv (actWord (5 : Int) ++ 32 :: (Lib.itoa y ++ 32 :: Lib.itoa z)), .bool true]) (by simp [results, Tryz.results34, go_sem]; exact Value.string.inj (sv_two _ _ _)) rfl ⟨by rw [E2.out rfl], hB⟩
set_option maxHeartbeats 3200000 in
theorem FormatAct_k6 (y z : Int) (w : World) (ht : Tab w) (hk : actOk (6 : Int) y z = true) :
  Calls Tryz.prog 34 #[.agg #[.int .i64 6, .int .i64 y, .int .i64 z]] w fun e w' => e = .returned (.tuple #[sv (actText (6 : Int) y z), .bool true]) ∧ Below w.heap.size w w' := by
 have hB := Below.refl w.heap.size w
 obtain ⟨_, hy0, hy1, hz0, hz1⟩ := actOk_cases hk
 have hly := act_len ⟨hy0, hy1⟩
 have hlz := act_len ⟨hz0, hz1⟩
 have HC := Lib.hid (fun W => ActOk_any (6 : Int) y z W)
 rw [hk] at HC
 have E1 := Lib.hid (fun h => actText_one (k := (6 : Int)) hk h)
 have E2 := Lib.hid (fun h => actText_two (k := (6 : Int)) hk h)
 have c1 : ¬ 9223372036854775807 < 1 + (Lib.itoa y).length := by omega
 have c2 : ¬ 9223372036854775807 < 1 + (Lib.itoa y).length + 1 := by omega
 have c3 : ¬ 9223372036854775807 < 1 + (Lib.itoa y).length + 1 + (Lib.itoa z).length := by omega
 clear hk
 go_enter Tryz.func34, Tryz.ntmps34
 go_wp2_with fail
 first | refine name_world ?_ | refine name_wp ?_
 intro W1 hW
 replace hB : Below w.heap.size w W1 := by rw [hW]; exact tacT
 have hz_W1 : w.heap.size ≤ W1.heap.size := by rw [hW]; exact sT
 replace kb_p : Blk W1 (w.heap.size) 50 #[.int .i64 6, .int .i64 y, .int .i64 z] := by rw [hW]; exact blkT
 have hLW1_p := kb_p.lt
 try clear kc_p kf_p
 clear hW
 refine (HC.out _).mono ?_
 rintro e w1 ⟨rfl, hb⟩
 replace hB := hB.trans (Below.mono hb hB.size)
 have hz_w1 : W1.heap.size ≤ w1.heap.size := Below.size hb
 replace kb_p := kb_p.mv hb; obtain ⟨kb_p, kc_p, kf_p, hl_p, hn_p⟩ := kb_p
 clear hb
 have HT := Lib.hid (ht.below hB)
 go_wp2_with fail
 refine (FormatInt_t _ _ (by omega) HT.out).mono ?_
 rintro e w2 ⟨rfl, hb⟩
 replace hB := hB.trans (Below.mono hb hB.size)
 have hz_w2 : w1.heap.size ≤ w2.heap.size := Below.size hb
 replace kb_p := kb_p.mv hb; obtain ⟨kb_p, kc_p, kf_p, hl_p, hn_p⟩ := kb_p
 clear hb
 have HT2 := Lib.hid (ht.below hB)
 go_wp2_with fail
 refine (FormatInt_t _ _ (by omega) HT2.out).mono ?_
 rintro e w3 ⟨rfl, hb⟩
 replace hB := hB.trans (Below.mono hb hB.size)
 have hz_w3 : w2.heap.size ≤ w3.heap.size := Below.size hb
 replace kb_p := kb_p.mv hb; obtain ⟨kb_p, kc_p, kf_p, hl_p, hn_p⟩ := kb_p
 clear hb
 go_wp2_with fail
 first
  |exact bodyPost_ret (v := .tuple #[sv (actWord (6 : Int) ++ 32 :: Lib.itoa y), .bool true]) (by simp [results, Tryz.results34, go_sem]; exact Value.string.inj (sv_one _ _)) rfl ⟨by rw [E1.out rfl], hB⟩
  |exact bodyPost_ret (v := .tuple #[sv (actWord (6 : Int) ++ 32 :: (Lib.itoa y ++ 32 :: Lib.itoa z)), .bool true]) (by simp [results, Tryz.results34, go_sem]; exact Value.string.inj (sv_two _ _ _)) rfl ⟨by rw [E2.out rfl], hB⟩
theorem FormatAct_any (x y z : Int) (w : World) (ht : Tab w) :
  Calls Tryz.prog 34 #[.agg #[.int .i64 x, .int .i64 y, .int .i64 z]] w fun e w' => e = .returned (.tuple #[sv (actText x y z), .bool (actOk x y z)]) ∧ Below w.heap.size w w' := by
 cases hk : actOk x y z
 ·have := FormatAct_no x y z w hk
  rw [hk] at this
  exact this
 ·rcases (actOk_cases hk).1 with rfl | rfl | rfl | rfl | rfl | rfl
  ·exact FormatAct_k1 y z w ht hk
  ·exact FormatAct_k2 y z w ht hk
  ·exact FormatAct_k3 y z w ht hk
  ·exact FormatAct_k4 y z w ht hk
  ·exact FormatAct_k5 y z w ht hk
  ·exact FormatAct_k6 y z w ht hk
set_option maxHeartbeats 3200000 in
theorem FormatActS_no (x y z : Int) (w : World) (hk : actOk x y z = false) :
  Calls Tryz.prog 45 #[.agg #[.int .i64 x, .int .i64 y, .int .i64 z]] w fun e w' => e = .returned (.tuple #[sv (actText x y z), .bool (actOk x y z)]) ∧ Below w.heap.size w w' := by
 have hB := Below.refl w.heap.size w
 have E := Lib.hid (actText_no hk)
 have HC := Lib.hid (fun W => ActOkS_any x y z W)
 have HK := Lib.hid hk
 rw [hk] at HC
 clear hk
 go_enter Tryz.func45, Tryz.ntmps45
 go_wp2_with fail
 first | refine name_world ?_ | refine name_wp ?_
 intro W1 hW
 replace hB : Below w.heap.size w W1 := by rw [hW]; exact tacT
 have hz_W1 : w.heap.size ≤ W1.heap.size := by rw [hW]; exact sT
 replace kb_p : Blk W1 (w.heap.size) 50 #[.int .i64 x, .int .i64 y, .int .i64 z] := by rw [hW]; exact blkT
 have hLW1_p := kb_p.lt
 try clear kc_p kf_p
 clear hW
 refine (HC.out _).mono ?_
 rintro e w1 ⟨rfl, hb⟩
 replace hB := hB.trans (Below.mono hb hB.size)
 have hz_w1 : W1.heap.size ≤ w1.heap.size := Below.size hb
 replace kb_p := kb_p.mv hb; obtain ⟨kb_p, kc_p, kf_p, hl_p, hn_p⟩ := kb_p
 clear hb
 go_wp2_with fail
 exact bodyPost_ret (v := .tuple #[sv [], .bool false]) (by simp [results, Tryz.results45, go_sem]) rfl ⟨by rw [E.out, HK.out], hB⟩
set_option maxHeartbeats 3200000 in
theorem FormatActS_k1 (y z : Int) (w : World) (ht : Tab w) (hk : actOk (1 : Int) y z = true) :
  Calls Tryz.prog 45 #[.agg #[.int .i64 1, .int .i64 y, .int .i64 z]] w fun e w' => e = .returned (.tuple #[sv (actText (1 : Int) y z), .bool true]) ∧ Below w.heap.size w w' := by
 have hB := Below.refl w.heap.size w
 obtain ⟨_, hy0, hy1, hz0, hz1⟩ := actOk_cases hk
 have hly := act_len ⟨hy0, hy1⟩
 have hlz := act_len ⟨hz0, hz1⟩
 have HC := Lib.hid (fun W => ActOkS_any (1 : Int) y z W)
 rw [hk] at HC
 have E1 := Lib.hid (fun h => actText_one (k := (1 : Int)) hk h)
 have E2 := Lib.hid (fun h => actText_two (k := (1 : Int)) hk h)
 clear hk
 go_enter Tryz.func45, Tryz.ntmps45
 go_wp2_with fail
 first | refine name_world ?_ | refine name_wp ?_
 intro W1 hW
 replace hB : Below w.heap.size w W1 := by rw [hW]; exact tacT
 have hz_W1 : w.heap.size ≤ W1.heap.size := by rw [hW]; exact sT
 replace kb_p : Blk W1 (w.heap.size) 50 #[.int .i64 1, .int .i64 y, .int .i64 z] := by rw [hW]; exact blkT
 have hLW1_p := kb_p.lt
 try clear kc_p kf_p
 clear hW
 refine (HC.out _).mono ?_
 rintro e w1 ⟨rfl, hb⟩
 replace hB := hB.trans (Below.mono hb hB.size)
 have hz_w1 : W1.heap.size ≤ w1.heap.size := Below.size hb
 replace kb_p := kb_p.mv hb; obtain ⟨kb_p, kc_p, kf_p, hl_p, hn_p⟩ := kb_p
 clear hb
 go_wp2_with fail
 first | refine name_world ?_ | refine name_wp ?_
 intro W2 hW
 replace hB : Below w.heap.size w W2 := by rw [hW]; exact tacT
 have hz_W2 : w1.heap.size ≤ W2.heap.size := by rw [hW]; exact sT
 replace kb_p : Blk W2 (w.heap.size) 50 #[.int .i64 1, .int .i64 y, .int .i64 z] := by rw [hW]; exact blkT
 have hLW2_p := kb_p.lt
 replace kb_q : Blk W2 (w1.heap.size + 1 + 1) 3 #[.int .i64 y, .int .i64 z] := by rw [hW]; exact blkT
 have hLW2_q := kb_q.lt
 try clear kc_p kf_p
 try clear kc_q kf_q
 clear hW
 have hlw : (actWord (1 : Int)).length ≤ 5 := by decide
 have c1 : ¬ 9223372036854775807 < (actWord (1 : Int)).length + 1 := by omega
 have c2 : ¬ 9223372036854775807 < (actWord (1 : Int)).length + 1 + (Lib.itoa y).length := by omega
 have c3 : ¬ 9223372036854775807 < (actWord (1 : Int)).length + ((Lib.itoa y).length + 1) + 1 := by omega
 have c4 : ¬ 9223372036854775807 < (actWord (1 : Int)).length + ((Lib.itoa y).length + 1) + 1 + (Lib.itoa z).length := by omega
 go_loopw [4, 7] (fun s k wr => ((k = .int .i64 0 ∧ s = sv (actWord (1 : Int))) ∨ (k = .int .i64 1 ∧ s = sv (actWord (1 : Int) ++ 32 :: Lib.itoa y))) ∧ Below W2.heap.size W2 wr) (fun _ k _ => 3 - (intOf k).toNat)
 case atStart => exact ⟨.inl ⟨rfl, rfl⟩, Below.refl _ _⟩
 case round =>
  obtain ⟨hr, hb⟩ := hrel
  have hbW := hb
  replace hB := hB.trans (Below.mono hb hB.size)
  have hz_wr : W2.heap.size ≤ wr.heap.size := Below.size hb
  replace kb_p := kb_p.mv hb; obtain ⟨kb_p, kc_p, kf_p, hl_p, hn_p⟩ := kb_p
  replace kb_q := kb_q.mv hb; obtain ⟨kb_q, kc_q, kf_q, hl_q, hn_q⟩ := kb_q
  clear hb
  have HT := Lib.hid (ht.below hB)
  rcases hr with ⟨rfl, rfl⟩ | ⟨rfl, rfl⟩
  ·go_wp2_with fail
   refine (FormatIntS_t _ _ (by omega) HT.out).mono ?_
   rintro e w3 ⟨rfl, hb⟩
   have hb3 := hbW.trans (hb.mono hbW.size)
   replace hB := hB.trans (Below.mono hb hB.size)
   have hz_w3 : wr.heap.size ≤ w3.heap.size := Below.size hb
   replace kb_p := kb_p.mv hb; obtain ⟨kb_p, kc_p, kf_p, hl_p, hn_p⟩ := kb_p
   replace kb_q := kb_q.mv hb; obtain ⟨kb_q, kc_q, kf_q, hl_q, hn_q⟩ := kb_q
   clear hb
   go_wp2_with fail
   go_roundw
   case rel => exact ⟨.inr ⟨by go_num, sv_oneS _ _⟩, hb3⟩
   case measure => simp [intOf]
  ·go_wp2_with fail
   exact bodyPost_ret (v := .tuple #[_, .bool true]) (by simp [results, Tryz.results45, go_sem]; rfl) rfl ⟨by rw [E1.out rfl], hB⟩
set_option maxHeartbeats 3200000 in
theorem FormatActS_k2 (y z : Int) (w : World) (ht : Tab w) (hk : actOk (2 : Int) y z = true) :
  Calls Tryz.prog 45 #[.agg #[.int .i64 2, .int .i64 y, .int .i64 z]] w fun e w' => e = .returned (.tuple #[sv (actText (2 : Int) y z), .bool true]) ∧ Below w.heap.size w w' := by
 have hB := Below.refl w.heap.size w
 obtain ⟨_, hy0, hy1, hz0, hz1⟩ := actOk_cases hk
 have hly := act_len ⟨hy0, hy1⟩
 have hlz := act_len ⟨hz0, hz1⟩
 have HC := Lib.hid (fun W => ActOkS_any (2 : Int) y z W)
 rw [hk] at HC
 have E1 := Lib.hid (fun h => actText_one (k := (2 : Int)) hk h)
 have E2 := Lib.hid (fun h => actText_two (k := (2 : Int)) hk h)
 clear hk
 go_enter Tryz.func45, Tryz.ntmps45
 go_wp2_with fail
 first | refine name_world ?_ | refine name_wp ?_
 intro W1 hW
 replace hB : Below w.heap.size w W1 := by rw [hW]; exact tacT
 have hz_W1 : w.heap.size ≤ W1.heap.size := by rw [hW]; exact sT
 replace kb_p : Blk W1 (w.heap.size) 50 #[.int .i64 2, .int .i64 y, .int .i64 z] := by rw [hW]; exact blkT
 have hLW1_p := kb_p.lt
 try clear kc_p kf_p
 clear hW
 refine (HC.out _).mono ?_
 rintro e w1 ⟨rfl, hb⟩
 replace hB := hB.trans (Below.mono hb hB.size)
 have hz_w1 : W1.heap.size ≤ w1.heap.size := Below.size hb
 replace kb_p := kb_p.mv hb; obtain ⟨kb_p, kc_p, kf_p, hl_p, hn_p⟩ := kb_p
 clear hb
 go_wp2_with fail
 first | refine name_world ?_ | refine name_wp ?_
 intro W2 hW
 replace hB : Below w.heap.size w W2 := by rw [hW]; exact tacT
 have hz_W2 : w1.heap.size ≤ W2.heap.size := by rw [hW]; exact sT
 replace kb_p : Blk W2 (w.heap.size) 50 #[.int .i64 2, .int .i64 y, .int .i64 z] := by rw [hW]; exact blkT
 have hLW2_p := kb_p.lt
 replace kb_q : Blk W2 (w1.heap.size + 1 + 1) 3 #[.int .i64 y, .int .i64 z] := by rw [hW]; exact blkT
 have hLW2_q := kb_q.lt
 try clear kc_p kf_p
 try clear kc_q kf_q
 clear hW
 have hlw : (actWord (2 : Int)).length ≤ 5 := by decide
 have c1 : ¬ 9223372036854775807 < (actWord (2 : Int)).length + 1 := by omega
 have c2 : ¬ 9223372036854775807 < (actWord (2 : Int)).length + 1 + (Lib.itoa y).length := by omega
 have c3 : ¬ 9223372036854775807 < (actWord (2 : Int)).length + ((Lib.itoa y).length + 1) + 1 := by omega
 have c4 : ¬ 9223372036854775807 < (actWord (2 : Int)).length + ((Lib.itoa y).length + 1) + 1 + (Lib.itoa z).length := by omega
 go_loopw [4, 7] (fun s k wr => ((k = .int .i64 0 ∧ s = sv (actWord (2 : Int))) ∨ (k = .int .i64 1 ∧ s = sv (actWord (2 : Int) ++ 32 :: Lib.itoa y)) ∨ (k = .int .i64 2 ∧ s = sv (actWord (2 : Int) ++ 32 :: (Lib.itoa y ++ 32 :: Lib.itoa z)))) ∧ Below W2.heap.size W2 wr) (fun _ k _ => 3 - (intOf k).toNat)
 case atStart => exact ⟨.inl ⟨rfl, rfl⟩, Below.refl _ _⟩
 case round =>
  obtain ⟨hr, hb⟩ := hrel
  have hbW := hb
  replace hB := hB.trans (Below.mono hb hB.size)
  have hz_wr : W2.heap.size ≤ wr.heap.size := Below.size hb
  replace kb_p := kb_p.mv hb; obtain ⟨kb_p, kc_p, kf_p, hl_p, hn_p⟩ := kb_p
  replace kb_q := kb_q.mv hb; obtain ⟨kb_q, kc_q, kf_q, hl_q, hn_q⟩ := kb_q
  clear hb
  have HT := Lib.hid (ht.below hB)
  rcases hr with ⟨rfl, rfl⟩ | ⟨rfl, rfl⟩ | ⟨rfl, rfl⟩
  ·go_wp2_with fail
   refine (FormatIntS_t _ _ (by omega) HT.out).mono ?_
   rintro e w3 ⟨rfl, hb⟩
   have hb3 := hbW.trans (hb.mono hbW.size)
   replace hB := hB.trans (Below.mono hb hB.size)
   have hz_w3 : wr.heap.size ≤ w3.heap.size := Below.size hb
   replace kb_p := kb_p.mv hb; obtain ⟨kb_p, kc_p, kf_p, hl_p, hn_p⟩ := kb_p
   replace kb_q := kb_q.mv hb; obtain ⟨kb_q, kc_q, kf_q, hl_q, hn_q⟩ := kb_q
   clear hb
   go_wp2_with fail
   go_roundw
   case rel => exact ⟨.inr (.inl ⟨by go_num, sv_oneS _ _⟩), hb3⟩
   case measure => simp [intOf]
  ·go_wp2_with fail
   refine (FormatIntS_t _ _ (by omega) HT.out).mono ?_
   rintro e w3 ⟨rfl, hb⟩
   have hb3 := hbW.trans (hb.mono hbW.size)
   replace hB := hB.trans (Below.mono hb hB.size)
   have hz_w3 : wr.heap.size ≤ w3.heap.size := Below.size hb
   replace kb_p := kb_p.mv hb; obtain ⟨kb_p, kc_p, kf_p, hl_p, hn_p⟩ := kb_p
   replace kb_q := kb_q.mv hb; obtain ⟨kb_q, kc_q, kf_q, hl_q, hn_q⟩ := kb_q
   clear hb
   go_wp2_with fail
   go_roundw
   case rel => exact ⟨.inr (.inr ⟨by go_num, sv_twoS' _ _ _⟩), hb3⟩
   case measure => simp [intOf]
  ·go_wp2_with fail
   exact bodyPost_ret (v := .tuple #[_, .bool true]) (by simp [results, Tryz.results45, go_sem]; rfl) rfl ⟨by rw [E2.out rfl], hB⟩
set_option maxHeartbeats 3200000 in
theorem FormatActS_k3 (y z : Int) (w : World) (ht : Tab w) (hk : actOk (3 : Int) y z = true) :
  Calls Tryz.prog 45 #[.agg #[.int .i64 3, .int .i64 y, .int .i64 z]] w fun e w' => e = .returned (.tuple #[sv (actText (3 : Int) y z), .bool true]) ∧ Below w.heap.size w w' := by
 have hB := Below.refl w.heap.size w
 obtain ⟨_, hy0, hy1, hz0, hz1⟩ := actOk_cases hk
 have hly := act_len ⟨hy0, hy1⟩
 have hlz := act_len ⟨hz0, hz1⟩
 have HC := Lib.hid (fun W => ActOkS_any (3 : Int) y z W)
 rw [hk] at HC
 have E1 := Lib.hid (fun h => actText_one (k := (3 : Int)) hk h)
 have E2 := Lib.hid (fun h => actText_two (k := (3 : Int)) hk h)
 clear hk
 go_enter Tryz.func45, Tryz.ntmps45
 go_wp2_with fail
 first | refine name_world ?_ | refine name_wp ?_
 intro W1 hW
 replace hB : Below w.heap.size w W1 := by rw [hW]; exact tacT
 have hz_W1 : w.heap.size ≤ W1.heap.size := by rw [hW]; exact sT
 replace kb_p : Blk W1 (w.heap.size) 50 #[.int .i64 3, .int .i64 y, .int .i64 z] := by rw [hW]; exact blkT
 have hLW1_p := kb_p.lt
 try clear kc_p kf_p
 clear hW
 refine (HC.out _).mono ?_
 rintro e w1 ⟨rfl, hb⟩
 replace hB := hB.trans (Below.mono hb hB.size)
 have hz_w1 : W1.heap.size ≤ w1.heap.size := Below.size hb
 replace kb_p := kb_p.mv hb; obtain ⟨kb_p, kc_p, kf_p, hl_p, hn_p⟩ := kb_p
 clear hb
 go_wp2_with fail
 first | refine name_world ?_ | refine name_wp ?_
 intro W2 hW
 replace hB : Below w.heap.size w W2 := by rw [hW]; exact tacT
 have hz_W2 : w1.heap.size ≤ W2.heap.size := by rw [hW]; exact sT
 replace kb_p : Blk W2 (w.heap.size) 50 #[.int .i64 3, .int .i64 y, .int .i64 z] := by rw [hW]; exact blkT
 have hLW2_p := kb_p.lt
 replace kb_q : Blk W2 (w1.heap.size + 1 + 1) 3 #[.int .i64 y, .int .i64 z] := by rw [hW]; exact blkT
 have hLW2_q := kb_q.lt
 try clear kc_p kf_p
 try clear kc_q kf_q
 clear hW
 have hlw : (actWord (3 : Int)).length ≤ 5 := by decide
 have c1 : ¬ 9223372036854775807 < (actWord (3 : Int)).length + 1 := by omega
 have c2 : ¬ 9223372036854775807 < (actWord (3 : Int)).length + 1 + (Lib.itoa y).length := by omega
 have c3 : ¬ 9223372036854775807 < (actWord (3 : Int)).length + ((Lib.itoa y).length + 1) + 1 := by omega
 have c4 : ¬ 9223372036854775807 < (actWord (3 : Int)).length + ((Lib.itoa y).length + 1) + 1 + (Lib.itoa z).length := by omega
 go_loopw [4, 7] (fun s k wr => ((k = .int .i64 0 ∧ s = sv (actWord (3 : Int))) ∨ (k = .int .i64 1 ∧ s = sv (actWord (3 : Int) ++ 32 :: Lib.itoa y))) ∧ Below W2.heap.size W2 wr) (fun _ k _ => 3 - (intOf k).toNat)
 case atStart => exact ⟨.inl ⟨rfl, rfl⟩, Below.refl _ _⟩
 case round =>
  obtain ⟨hr, hb⟩ := hrel
  have hbW := hb
  replace hB := hB.trans (Below.mono hb hB.size)
  have hz_wr : W2.heap.size ≤ wr.heap.size := Below.size hb
  replace kb_p := kb_p.mv hb; obtain ⟨kb_p, kc_p, kf_p, hl_p, hn_p⟩ := kb_p
  replace kb_q := kb_q.mv hb; obtain ⟨kb_q, kc_q, kf_q, hl_q, hn_q⟩ := kb_q
  clear hb
  have HT := Lib.hid (ht.below hB)
  rcases hr with ⟨rfl, rfl⟩ | ⟨rfl, rfl⟩
  ·go_wp2_with fail
   refine (FormatIntS_t _ _ (by omega) HT.out).mono ?_
   rintro e w3 ⟨rfl, hb⟩
   have hb3 := hbW.trans (hb.mono hbW.size)
   replace hB := hB.trans (Below.mono hb hB.size)
   have hz_w3 : wr.heap.size ≤ w3.heap.size := Below.size hb
   replace kb_p := kb_p.mv hb; obtain ⟨kb_p, kc_p, kf_p, hl_p, hn_p⟩ := kb_p
   replace kb_q := kb_q.mv hb; obtain ⟨kb_q, kc_q, kf_q, hl_q, hn_q⟩ := kb_q
   clear hb
   go_wp2_with fail
   go_roundw
   case rel => exact ⟨.inr ⟨by go_num, sv_oneS _ _⟩, hb3⟩
   case measure => simp [intOf]
  ·go_wp2_with fail
   exact bodyPost_ret (v := .tuple #[_, .bool true]) (by simp [results, Tryz.results45, go_sem]; rfl) rfl ⟨by rw [E1.out rfl], hB⟩
set_option maxHeartbeats 3200000 in
theorem FormatActS_k6 (y z : Int) (w : World) (ht : Tab w) (hk : actOk (6 : Int) y z = true) :
  Calls Tryz.prog 45 #[.agg #[.int .i64 6, .int .i64 y, .int .i64 z]] w fun e w' => e = .returned (.tuple #[sv (actText (6 : Int) y z), .bool true]) ∧ Below w.heap.size w w' := by
 have hB := Below.refl w.heap.size w
 obtain ⟨_, hy0, hy1, hz0, hz1⟩ := actOk_cases hk
 have hly := act_len ⟨hy0, hy1⟩
 have hlz := act_len ⟨hz0, hz1⟩
 have HC := Lib.hid (fun W => ActOkS_any (6 : Int) y z W)
 rw [hk] at HC
 have E1 := Lib.hid (fun h => actText_one (k := (6 : Int)) hk h)
 have E2 := Lib.hid (fun h => actText_two (k := (6 : Int)) hk h)
 clear hk
 go_enter Tryz.func45, Tryz.ntmps45
 go_wp2_with fail
 first | refine name_world ?_ | refine name_wp ?_
 intro W1 hW
 replace hB : Below w.heap.size w W1 := by rw [hW]; exact tacT
 have hz_W1 : w.heap.size ≤ W1.heap.size := by rw [hW]; exact sT
 replace kb_p : Blk W1 (w.heap.size) 50 #[.int .i64 6, .int .i64 y, .int .i64 z] := by rw [hW]; exact blkT
 have hLW1_p := kb_p.lt
 try clear kc_p kf_p
 clear hW
 refine (HC.out _).mono ?_
 rintro e w1 ⟨rfl, hb⟩
 replace hB := hB.trans (Below.mono hb hB.size)
 have hz_w1 : W1.heap.size ≤ w1.heap.size := Below.size hb
 replace kb_p := kb_p.mv hb; obtain ⟨kb_p, kc_p, kf_p, hl_p, hn_p⟩ := kb_p
 clear hb
 go_wp2_with fail
 first | refine name_world ?_ | refine name_wp ?_
 intro W2 hW
 replace hB : Below w.heap.size w W2 := by rw [hW]; exact tacT
 have hz_W2 : w1.heap.size ≤ W2.heap.size := by rw [hW]; exact sT
 replace kb_p : Blk W2 (w.heap.size) 50 #[.int .i64 6, .int .i64 y, .int .i64 z] := by rw [hW]; exact blkT
 have hLW2_p := kb_p.lt
 replace kb_q : Blk W2 (w1.heap.size + 1 + 1) 3 #[.int .i64 y, .int .i64 z] := by rw [hW]; exact blkT
 have hLW2_q := kb_q.lt
 try clear kc_p kf_p
 try clear kc_q kf_q
 clear hW
 have hlw : (actWord (6 : Int)).length ≤ 5 := by decide
 have c1 : ¬ 9223372036854775807 < (actWord (6 : Int)).length + 1 := by omega
 have c2 : ¬ 9223372036854775807 < (actWord (6 : Int)).length + 1 + (Lib.itoa y).length := by omega
 have c3 : ¬ 9223372036854775807 < (actWord (6 : Int)).length + ((Lib.itoa y).length + 1) + 1 := by omega
 have c4 : ¬ 9223372036854775807 < (actWord (6 : Int)).length + ((Lib.itoa y).length + 1) + 1 + (Lib.itoa z).length := by omega
 go_loopw [4, 7] (fun s k wr => ((k = .int .i64 0 ∧ s = sv (actWord (6 : Int))) ∨ (k = .int .i64 1 ∧ s = sv (actWord (6 : Int) ++ 32 :: Lib.itoa y))) ∧ Below W2.heap.size W2 wr) (fun _ k _ => 3 - (intOf k).toNat)
 case atStart => exact ⟨.inl ⟨rfl, rfl⟩, Below.refl _ _⟩
 case round =>
  obtain ⟨hr, hb⟩ := hrel
  have hbW := hb
  replace hB := hB.trans (Below.mono hb hB.size)
  have hz_wr : W2.heap.size ≤ wr.heap.size := Below.size hb
  replace kb_p := kb_p.mv hb; obtain ⟨kb_p, kc_p, kf_p, hl_p, hn_p⟩ := kb_p
  replace kb_q := kb_q.mv hb; obtain ⟨kb_q, kc_q, kf_q, hl_q, hn_q⟩ := kb_q
  clear hb
  have HT := Lib.hid (ht.below hB)
  rcases hr with ⟨rfl, rfl⟩ | ⟨rfl, rfl⟩
  ·go_wp2_with fail
   refine (FormatIntS_t _ _ (by omega) HT.out).mono ?_
   rintro e w3 ⟨rfl, hb⟩
   have hb3 := hbW.trans (hb.mono hbW.size)
   replace hB := hB.trans (Below.mono hb hB.size)
   have hz_w3 : wr.heap.size ≤ w3.heap.size := Below.size hb
   replace kb_p := kb_p.mv hb; obtain ⟨kb_p, kc_p, kf_p, hl_p, hn_p⟩ := kb_p
   replace kb_q := kb_q.mv hb; obtain ⟨kb_q, kc_q, kf_q, hl_q, hn_q⟩ := kb_q
   clear hb
   go_wp2_with fail
   go_roundw
   case rel => exact ⟨.inr ⟨by go_num, sv_oneS _ _⟩, hb3⟩
   case measure => simp [intOf]
  ·go_wp2_with fail
   exact bodyPost_ret (v := .tuple #[_, .bool true]) (by simp [results, Tryz.results45, go_sem]; rfl) rfl ⟨by rw [E1.out rfl], hB⟩
set_option maxHeartbeats 3200000 in
theorem FormatActS_k4 (y z : Int) (w : World) (ht : Tab w) (hk : actOk (4 : Int) y z = true) :
  Calls Tryz.prog 45 #[.agg #[.int .i64 4, .int .i64 y, .int .i64 z]] w fun e w' => e = .returned (.tuple #[sv (actText (4 : Int) y z), .bool true]) ∧ Below w.heap.size w w' := by
 have hB := Below.refl w.heap.size w
 obtain ⟨_, hy0, hy1, hz0, hz1⟩ := actOk_cases hk
 have hly := act_len ⟨hy0, hy1⟩
 have hlz := act_len ⟨hz0, hz1⟩
 have HC := Lib.hid (fun W => ActOkS_any (4 : Int) y z W)
 rw [hk] at HC
 have E1 := Lib.hid (fun h => actText_one (k := (4 : Int)) hk h)
 have E2 := Lib.hid (fun h => actText_two (k := (4 : Int)) hk h)
 clear hk
 go_enter Tryz.func45, Tryz.ntmps45
 go_wp2_with fail
 first | refine name_world ?_ | refine name_wp ?_
 intro W1 hW
 replace hB : Below w.heap.size w W1 := by rw [hW]; exact tacT
 have hz_W1 : w.heap.size ≤ W1.heap.size := by rw [hW]; exact sT
 replace kb_p : Blk W1 (w.heap.size) 50 #[.int .i64 4, .int .i64 y, .int .i64 z] := by rw [hW]; exact blkT
 have hLW1_p := kb_p.lt
 try clear kc_p kf_p
 clear hW
 refine (HC.out _).mono ?_
 rintro e w1 ⟨rfl, hb⟩
 replace hB := hB.trans (Below.mono hb hB.size)
 have hz_w1 : W1.heap.size ≤ w1.heap.size := Below.size hb
 replace kb_p := kb_p.mv hb; obtain ⟨kb_p, kc_p, kf_p, hl_p, hn_p⟩ := kb_p
 clear hb
 go_wp2_with fail
 first | refine name_world ?_ | refine name_wp ?_
 intro W2 hW
 replace hB : Below w.heap.size w W2 := by rw [hW]; exact tacT
 have hz_W2 : w1.heap.size ≤ W2.heap.size := by rw [hW]; exact sT
 replace kb_p : Blk W2 (w.heap.size) 50 #[.int .i64 4, .int .i64 y, .int .i64 z] := by rw [hW]; exact blkT
 have hLW2_p := kb_p.lt
 replace kb_q : Blk W2 (w1.heap.size + 1 + 1) 3 #[.int .i64 y, .int .i64 z] := by rw [hW]; exact blkT
 have hLW2_q := kb_q.lt
 try clear kc_p kf_p
 try clear kc_q kf_q
 clear hW
 have hlw : (actWord (4 : Int)).length ≤ 5 := by decide
 have c1 : ¬ 9223372036854775807 < (actWord (4 : Int)).length + 1 := by omega
 have c2 : ¬ 9223372036854775807 < (actWord (4 : Int)).length + 1 + (Lib.itoa y).length := by omega
 have c3 : ¬ 9223372036854775807 < (actWord (4 : Int)).length + ((Lib.itoa y).length + 1) + 1 := by omega
 have c4 : ¬ 9223372036854775807 < (actWord (4 : Int)).length + ((Lib.itoa y).length + 1) + 1 + (Lib.itoa z).length := by omega
 go_loopw [4, 7] (fun s k wr => ((k = .int .i64 0 ∧ s = sv (actWord (4 : Int))) ∨ (k = .int .i64 1 ∧ s = sv (actWord (4 : Int) ++ 32 :: Lib.itoa y)) ∨ (k = .int .i64 2 ∧ s = sv (actWord (4 : Int) ++ 32 :: (Lib.itoa y ++ 32 :: Lib.itoa z)))) ∧ Below W2.heap.size W2 wr) (fun _ k _ => 3 - (intOf k).toNat)
 case atStart => exact ⟨.inl ⟨rfl, rfl⟩, Below.refl _ _⟩
 case round =>
  obtain ⟨hr, hb⟩ := hrel
  have hbW := hb
  replace hB := hB.trans (Below.mono hb hB.size)
  have hz_wr : W2.heap.size ≤ wr.heap.size := Below.size hb
  replace kb_p := kb_p.mv hb; obtain ⟨kb_p, kc_p, kf_p, hl_p, hn_p⟩ := kb_p
  replace kb_q := kb_q.mv hb; obtain ⟨kb_q, kc_q, kf_q, hl_q, hn_q⟩ := kb_q
  clear hb
  have HT := Lib.hid (ht.below hB)
  rcases hr with ⟨rfl, rfl⟩ | ⟨rfl, rfl⟩ | ⟨rfl, rfl⟩
  ·go_wp2_with fail
   refine (FormatIntS_t _ _ (by omega) HT.out).mono ?_
   rintro e w3 ⟨rfl, hb⟩
   have hb3 := hbW.trans (hb.mono hbW.size)
   replace hB := hB.trans (Below.mono hb hB.size)
   have hz_w3 : wr.heap.size ≤ w3.heap.size := Below.size hb
   replace kb_p := kb_p.mv hb; obtain ⟨kb_p, kc_p, kf_p, hl_p, hn_p⟩ := kb_p
   replace kb_q := kb_q.mv hb; obtain ⟨kb_q, kc_q, kf_q, hl_q, hn_q⟩ := kb_q
   clear hb
   go_wp2_with fail
   go_roundw
   case rel => exact ⟨.inr (.inl ⟨by go_num, sv_oneS _ _⟩), hb3⟩
   case measure => simp [intOf]
  ·go_wp2_with fail
   refine (FormatIntS_t _ _ (by omega) HT.out).mono ?_
   rintro e w3 ⟨rfl, hb⟩
   have hb3 := hbW.trans (hb.mono hbW.size)
   replace hB := hB.trans (Below.mono hb hB.size)
   have hz_w3 : wr.heap.size ≤ w3.heap.size := Below.size hb
   replace kb_p := kb_p.mv hb; obtain ⟨kb_p, kc_p, kf_p, hl_p, hn_p⟩ := kb_p
   replace kb_q := kb_q.mv hb; obtain ⟨kb_q, kc_q, kf_q, hl_q, hn_q⟩ := kb_q
   clear hb
   go_wp2_with fail
   go_roundw
   case rel => exact ⟨.inr (.inr ⟨by go_num, sv_twoS' _ _ _⟩), hb3⟩
   case measure => simp [intOf]
  ·go_wp2_with fail
   exact bodyPost_ret (v := .tuple #[_, .bool true]) (by simp [results, Tryz.results45, go_sem]; rfl) rfl ⟨by rw [E2.out rfl], hB⟩
set_option maxHeartbeats 3200000 in
theorem FormatActS_k5 (y z : Int) (w : World) (ht : Tab w) (hk : actOk (5 : Int) y z = true) :
  Calls Tryz.prog 45 #[.agg #[.int .i64 5, .int .i64 y, .int .i64 z]] w fun e w' => e = .returned (.tuple #[sv (actText (5 : Int) y z), .bool true]) ∧ Below w.heap.size w w' := by
 have hB := Below.refl w.heap.size w
 obtain ⟨_, hy0, hy1, hz0, hz1⟩ := actOk_cases hk
 have hly := act_len ⟨hy0, hy1⟩
 have hlz := act_len ⟨hz0, hz1⟩
 have HC := Lib.hid (fun W => ActOkS_any (5 : Int) y z W)
 rw [hk] at HC
 have E1 := Lib.hid (fun h => actText_one (k := (5 : Int)) hk h)
 have E2 := Lib.hid (fun h => actText_two (k := (5 : Int)) hk h)
 clear hk
 go_enter Tryz.func45, Tryz.ntmps45
 go_wp2_with fail
 first | refine name_world ?_ | refine name_wp ?_
 intro W1 hW
 replace hB : Below w.heap.size w W1 := by rw [hW]; exact tacT
 have hz_W1 : w.heap.size ≤ W1.heap.size := by rw [hW]; exact sT
 replace kb_p : Blk W1 (w.heap.size) 50 #[.int .i64 5, .int .i64 y, .int .i64 z] := by rw [hW]; exact blkT
 have hLW1_p := kb_p.lt
 try clear kc_p kf_p
 clear hW
 refine (HC.out _).mono ?_
 rintro e w1 ⟨rfl, hb⟩
 replace hB := hB.trans (Below.mono hb hB.size)
 have hz_w1 : W1.heap.size ≤ w1.heap.size := Below.size hb
 replace kb_p := kb_p.mv hb; obtain ⟨kb_p, kc_p, kf_p, hl_p, hn_p⟩ := kb_p
 clear hb
 go_wp2_with fail
 first | refine name_world ?_ | refine name_wp ?_
 intro W2 hW
 replace hB : Below w.heap.size w W2 := by rw [hW]; exact tacT
 have hz_W2 : w1.heap.size ≤ W2.heap.size := by rw [hW]; exact sT
 replace kb_p : Blk W2 (w.heap.size) 50 #[.int .i64 5, .int .i64 y, .int .i64 z] := by rw [hW]; exact blkT
 have hLW2_p := kb_p.lt
 replace kb_q : Blk W2 (w1.heap.size + 1 + 1) 3 #[.int .i64 y, .int .i64 z] := by rw [hW]; exact blkT
 have hLW2_q := kb_q.lt
 try clear kc_p kf_p
 try clear kc_q kf_q
 clear hW
 have hlw : (actWord (5 : Int)).length ≤ 5 := by decide
 have c1 : ¬ 9223372036854775807 < (actWord (5 : Int)).length + 1 := by omega
 have c2 : ¬ 9223372036854775807 < (actWord (5 : Int)).length + 1 + (Lib.itoa y).length := by omega
 have c3 : ¬ 9223372036854775807 < (actWord (5 : Int)).length + ((Lib.itoa y).length + 1) + 1 := by omega
 have c4 : ¬ 9223372036854775807 < (actWord (5 : Int)).length + ((Lib.itoa y).length + 1) + 1 + (Lib.itoa z).length := by omega
 go_loopw [4, 7] (fun s k wr => ((k = .int .i64 0 ∧ s = sv (actWord (5 : Int))) ∨ (k = .int .i64 1 ∧ s = sv (actWord (5 : Int) ++ 32 :: Lib.itoa y)) ∨ (k = .int .i64 2 ∧ s = sv (actWord (5 : Int) ++ 32 :: (Lib.itoa y ++ 32 :: Lib.itoa z)))) ∧ Below W2.heap.size W2 wr) (fun _ k _ => 3 - (intOf k).toNat)
 case atStart => exact ⟨.inl ⟨rfl, rfl⟩, Below.refl _ _⟩
 case round =>
  obtain ⟨hr, hb⟩ := hrel
  have hbW := hb
  replace hB := hB.trans (Below.mono hb hB.size)
  have hz_wr : W2.heap.size ≤ wr.heap.size := Below.size hb
  replace kb_p := kb_p.mv hb; obtain ⟨kb_p, kc_p, kf_p, hl_p, hn_p⟩ := kb_p
  replace kb_q := kb_q.mv hb; obtain ⟨kb_q, kc_q, kf_q, hl_q, hn_q⟩ := kb_q
  clear hb
  have HT := Lib.hid (ht.below hB)
  rcases hr with ⟨rfl, rfl⟩ | ⟨rfl, rfl⟩ | ⟨rfl, rfl⟩
  ·go_wp2_with fail
   refine (FormatIntS_t _ _ (by omega) HT.out).mono ?_
   rintro e w3 ⟨rfl, hb⟩
   have hb3 := hbW.trans (hb.mono hbW.size)
   replace hB := hB.trans (Below.mono hb hB.size)
   have hz_w3 : wr.heap.size ≤ w3.heap.size := Below.size hb
   replace kb_p := kb_p.mv hb; obtain ⟨kb_p, kc_p, kf_p, hl_p, hn_p⟩ := kb_p
   replace kb_q := kb_q.mv hb; obtain ⟨kb_q, kc_q, kf_q, hl_q, hn_q⟩ := kb_q
   clear hb
   go_wp2_with fail
   go_roundw
   case rel => exact ⟨.inr (.inl ⟨by go_num, sv_oneS _ _⟩), hb3⟩
   case measure => simp [intOf]
  ·go_wp2_with fail
   refine (FormatIntS_t _ _ (by omega) HT.out).mono ?_
   rintro e w3 ⟨rfl, hb⟩
   have hb3 := hbW.trans (hb.mono hbW.size)
   replace hB := hB.trans (Below.mono hb hB.size)
   have hz_w3 : wr.heap.size ≤ w3.heap.size := Below.size hb
   replace kb_p := kb_p.mv hb; obtain ⟨kb_p, kc_p, kf_p, hl_p, hn_p⟩ := kb_p
   replace kb_q := kb_q.mv hb; obtain ⟨kb_q, kc_q, kf_q, hl_q, hn_q⟩ := kb_q
   clear hb
   go_wp2_with fail
   go_roundw
   case rel => exact ⟨.inr (.inr ⟨by go_num, sv_twoS' _ _ _⟩), hb3⟩
   case measure => simp [intOf]
  ·go_wp2_with fail
   exact bodyPost_ret (v := .tuple #[_, .bool true]) (by simp [results, Tryz.results45, go_sem]; rfl) rfl ⟨by rw [E2.out rfl], hB⟩
theorem FormatActS_any (x y z : Int) (w : World) (ht : Tab w) :
  Calls Tryz.prog 45 #[.agg #[.int .i64 x, .int .i64 y, .int .i64 z]] w fun e w' => e = .returned (.tuple #[sv (actText x y z), .bool (actOk x y z)]) ∧ Below w.heap.size w w' := by
 cases hk : actOk x y z
 ·have := FormatActS_no x y z w hk
  rw [hk] at this
  exact this
 ·rcases (actOk_cases hk).1 with rfl | rfl | rfl | rfl | rfl | rfl
  ·exact FormatActS_k1 y z w ht hk
  ·exact FormatActS_k2 y z w ht hk
  ·exact FormatActS_k3 y z w ht hk
  ·exact FormatActS_k4 y z w ht hk
  ·exact FormatActS_k5 y z w ht hk
  ·exact FormatActS_k6 y z w ht hk
end
end Go.Proofs.YtpmmjhpmheooeaaGreatDoor
