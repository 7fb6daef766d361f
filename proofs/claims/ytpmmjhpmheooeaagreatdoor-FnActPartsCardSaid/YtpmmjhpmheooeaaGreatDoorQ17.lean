/- Texts of the proof, joined: Sell0. -/
import Derived.Test.YtpmmjhpmheooeaaGreatDoorQ14
import Derived.Test.YtpmmjhpmheooeaaGreatDoorQ15
import Derived.Test.YtpmmjhpmheooeaaGreatDoorQ16
namespace Go.Proofs.YtpmmjhpmheooeaaGreatDoor
set_option linter.unusedSimpArgs false
set_option linter.unusedVariables false
section
open Go.RowKit
set_option maxRecDepth 20000
/-- What a sale or an inheritance leaves: rights of the call's own, and whether it is done. -/
def SellRet (r : List T3 × Bool) (w : World) (e : Ending) (w' : World) : Prop :=
 ∃ A' c', e = .returned (.tuple #[.slice A' r.1.length c', .bool r.2]) ∧ w'.ownsRow w.heap.size 69 3 (.slice A' r.1.length c') r.1.length (t3s r.1) ∧ Below w.heap.size w w'
theorem sellG_iff {l : List T3} {f t a b : Int} : sellG l f t a b = true ↔ rightsOk l = true ∧ hasO l f = true ∧ f ≠ t ∧ inB t 1 999 = true ∧ fracOk a b = true ∧ a ≤ b := by
 unfold sellG
 simp only [Bool.and_eq_true, decide_eq_true_eq, and_assoc]
theorem sellG_no {l : List T3} {f t a b : Int} (h : ¬ (rightsOk l = true ∧ hasO l f = true ∧ f ≠ t ∧ inB t 1 999 = true ∧ fracOk a b = true ∧ a ≤ b)) : sellF l f t a b = (l, false) :=
 sellF_no (Bool.eq_false_iff.2 (fun hg => h (sellG_iff.1 hg)))
theorem Row2.wrote' {w w' : World} {lo hi g sz n c : Nat} {e : TypeId} {xs : List Value} (h : Row2 w lo hi e sz (some ⟨g, 0, none⟩) n c xs) (hg : w.grownBy w' (some g)) : Chg lo hi w w' := h.wrote hg
theorem sellTo_is {l : List T3} {f t a b y z u1 u2 r1 r2 : Int} {mok rok : Bool} (gs : shareOf l f = (y, z)) (hm : mulF y z a b = (u1, u2, mok)) (hr : mulF y z (b - a) b = (r1, r2, rok)) : sellTo l f t a b = if mok && rok then (if u1 = 0 then some (cutS l f r1 r2) else addSh (cutS l f r1 r2) t u1 u2) else none := by
 unfold sellTo
 simp only [gs, hm, hr]
theorem sell_end {l : List T3} {f t a b y z u1 u2 r1 r2 : Int} {r : List T3} {ok : Bool} (hG : sellG l f t a b = true) (gs : shareOf l f = (y, z)) (hm : mulF y z a b = (u1, u2, true)) (hr : mulF y z (b - a) b = (r1, r2, true)) (h : AddIs (cutS l f r1 r2) t u1 u2 r ok) :
  sellF l f t a b = if ok && rightsOk r then (r, true) else (l, false) := by
 have h1 := sellTo_is (t := t) gs hm hr
 cases ok
 ·obtain ⟨h2, h3, _⟩ := h.2 rfl
  rw [sellF_none (by rw [h1, if_neg h2, h3]; rfl)]; rfl
 ·rcases h.1 rfl with ⟨h2, h3⟩ | ⟨h2, h3⟩
  ·rw [sellF_some hG (by rw [h1, if_pos h2]; rfl), h3]; rfl
  ·rw [sellF_some hG (by rw [h1, if_neg h2, h3]; rfl)]; rfl
set_option maxHeartbeats 12800000 in
theorem SellShare_no1 (A : Option Addr) (c : Nat) (l : List T3) (f t a b : Int) (w : World) (h : RdT w w.heap.size A c l) (hs : l.length ≤ 1048576) (g1 : rightsOk l = false) :
  Calls Tryz.prog 102 #[.slice A l.length c, .int .i64 f, .int .i64 t, .agg #[.int .i64 a, .int .i64 b]] w (SellRet (l, false) w) := by
 have hB := Below.refl w.heap.size w
 have H1 := Lib.hid (fun (W : World) (hb : Below w.heap.size w W) => copyRights_any A c l W (h.below hb) hs)
 have H2 := Lib.hid (fun (W : World) (hb : Below w.heap.size w W) => rightOf_any A c l f W (h.below hb))
 have H3 := Lib.hid (fun (W : World) (hb : Below w.heap.size w W) => RightsOk_any A c l W (h.below hb))
 have HF := Lib.hid (fun (W : World) => FractionOk_any a b W)
 rw [g1] at H3
 clear h
 go_enter Tryz.func102, Tryz.ntmps102
 go_wp2_with fail
 first | refine name_world ?_ | refine name_wp ?_
 intro W1 hW
 replace hB : Below w.heap.size w W1 := by rw [hW]; exact tacT
 have hz_W1 : w.heap.size ≤ W1.heap.size := by rw [hW]; exact sT
 replace kb_p : Blk W1 (w.heap.size) 67 #[.int .i64 a, .int .i64 b] := by rw [hW]; exact blkT
 have hLW1_p := kb_p.lt
 try clear kc_p kf_p
 clear hW
 refine (H1.out _ hB).mono ?_
 rintro e w1 ⟨A1, c1, rfl, ho1, hb⟩
 have hr_s := Row2.born ho1
 clear ho1
 replace hB := hB.trans (Below.mono hb hB.size)
 have hz_w1 : W1.heap.size ≤ w1.heap.size := Below.size hb
 replace kb_p := kb_p.mv hb; obtain ⟨kb_p, kc_p, kf_p, hl_p, hn_p⟩ := kb_p
 clear hb
 go_wp2_with fail
 refine (H2.out _ hB).mono ?_
 rintro e w2 ⟨rfl, hb⟩
 replace hB := hB.trans (Below.mono hb hB.size)
 have hz_w2 : w1.heap.size ≤ w2.heap.size := Below.size hb
 replace kb_p := kb_p.mv hb; obtain ⟨kb_p, kc_p, kf_p, hl_p, hn_p⟩ := kb_p
 replace hr_s := Row2.below hr_s hb (by omega)
 clear hb
 go_wp2_with fail
 refine (H3.out _ hB).mono ?_
 rintro e w3 ⟨rfl, hb⟩
 replace hB := hB.trans (Below.mono hb hB.size)
 have hz_w3 : w2.heap.size ≤ w3.heap.size := Below.size hb
 replace kb_p := kb_p.mv hb; obtain ⟨kb_p, kc_p, kf_p, hl_p, hn_p⟩ := kb_p
 replace hr_s := Row2.below hr_s hb (by omega)
 clear hb
 go_wp2_with fail
 refine bodyPost_ret (v := .tuple #[.slice A1 l.length c1, .bool false]) ?_ rfl ?_
 ·simp [results, Tryz.results102, go_sem]
 ·exact ⟨A1, c1, rfl, (Row2.mono (lo := W1.heap.size) (hi := w1.heap.size) (hi' := w1.heap.size) (by exact rowT) (by omega) (Nat.le_refl _)).1, by exact tacT⟩
set_option maxHeartbeats 12800000 in
theorem SellShare_no2 (A : Option Addr) (c : Nat) (l : List T3) (f t a b : Int) (w : World) (h : RdT w w.heap.size A c l) (hs : l.length ≤ 1048576) (g1 : rightsOk l = true) (g2 : rightAt l f = -1) :
  Calls Tryz.prog 102 #[.slice A l.length c, .int .i64 f, .int .i64 t, .agg #[.int .i64 a, .int .i64 b]] w (SellRet (l, false) w) := by
 have hB := Below.refl w.heap.size w
 have H1 := Lib.hid (fun (W : World) (hb : Below w.heap.size w W) => copyRights_any A c l W (h.below hb) hs)
 have H2 := Lib.hid (fun (W : World) (hb : Below w.heap.size w W) => rightOf_any A c l f W (h.below hb))
 have H3 := Lib.hid (fun (W : World) (hb : Below w.heap.size w W) => RightsOk_any A c l W (h.below hb))
 have HF := Lib.hid (fun (W : World) => FractionOk_any a b W)
 rw [g1] at H3
 rw [g2] at H2
 clear h
 go_enter Tryz.func102, Tryz.ntmps102
 go_wp2_with fail
 first | refine name_world ?_ | refine name_wp ?_
 intro W1 hW
 replace hB : Below w.heap.size w W1 := by rw [hW]; exact tacT
 have hz_W1 : w.heap.size ≤ W1.heap.size := by rw [hW]; exact sT
 replace kb_p : Blk W1 (w.heap.size) 67 #[.int .i64 a, .int .i64 b] := by rw [hW]; exact blkT
 have hLW1_p := kb_p.lt
 try clear kc_p kf_p
 clear hW
 refine (H1.out _ hB).mono ?_
 rintro e w1 ⟨A1, c1, rfl, ho1, hb⟩
 have hr_s := Row2.born ho1
 clear ho1
 replace hB := hB.trans (Below.mono hb hB.size)
 have hz_w1 : W1.heap.size ≤ w1.heap.size := Below.size hb
 replace kb_p := kb_p.mv hb; obtain ⟨kb_p, kc_p, kf_p, hl_p, hn_p⟩ := kb_p
 clear hb
 go_wp2_with fail
 refine (H2.out _ hB).mono ?_
 rintro e w2 ⟨rfl, hb⟩
 replace hB := hB.trans (Below.mono hb hB.size)
 have hz_w2 : w1.heap.size ≤ w2.heap.size := Below.size hb
 replace kb_p := kb_p.mv hb; obtain ⟨kb_p, kc_p, kf_p, hl_p, hn_p⟩ := kb_p
 replace hr_s := Row2.below hr_s hb (by omega)
 clear hb
 go_wp2_with fail
 refine (H3.out _ hB).mono ?_
 rintro e w3 ⟨rfl, hb⟩
 replace hB := hB.trans (Below.mono hb hB.size)
 have hz_w3 : w2.heap.size ≤ w3.heap.size := Below.size hb
 replace kb_p := kb_p.mv hb; obtain ⟨kb_p, kc_p, kf_p, hl_p, hn_p⟩ := kb_p
 replace hr_s := Row2.below hr_s hb (by omega)
 clear hb
 go_wp2_with fail
 refine bodyPost_ret (v := .tuple #[.slice A1 l.length c1, .bool false]) ?_ rfl ?_
 ·simp [results, Tryz.results102, go_sem]
 ·exact ⟨A1, c1, rfl, (Row2.mono (lo := W1.heap.size) (hi := w1.heap.size) (hi' := w1.heap.size) (by exact rowT) (by omega) (Nat.le_refl _)).1, by exact tacT⟩
set_option maxHeartbeats 12800000 in
theorem SellShare_no3 (A : Option Addr) (c : Nat) (l : List T3) (f t a b : Int) (w : World) (h : RdT w w.heap.size A c l) (hs : l.length ≤ 1048576) (g1 : rightsOk l = true) (k : Nat) (g2 : rightAt l f = (k : Int)) (g3 : f = t) :
  Calls Tryz.prog 102 #[.slice A l.length c, .int .i64 f, .int .i64 t, .agg #[.int .i64 a, .int .i64 b]] w (SellRet (l, false) w) := by
 have hB := Below.refl w.heap.size w
 have H1 := Lib.hid (fun (W : World) (hb : Below w.heap.size w W) => copyRights_any A c l W (h.below hb) hs)
 have H2 := Lib.hid (fun (W : World) (hb : Below w.heap.size w W) => rightOf_any A c l f W (h.below hb))
 have H3 := Lib.hid (fun (W : World) (hb : Below w.heap.size w W) => RightsOk_any A c l W (h.below hb))
 have HF := Lib.hid (fun (W : World) => FractionOk_any a b W)
 rw [g1] at H3
 rw [g2] at H2
 have hk9 : ¬ (k : Int) < 0 := by omega
 have hk8 : decide ((k : Int) < 0) = false := by simp
 clear h g2
 subst g3
 go_enter Tryz.func102, Tryz.ntmps102
 go_wp2_with fail
 first | refine name_world ?_ | refine name_wp ?_
 intro W1 hW
 replace hB : Below w.heap.size w W1 := by rw [hW]; exact tacT
 have hz_W1 : w.heap.size ≤ W1.heap.size := by rw [hW]; exact sT
 replace kb_p : Blk W1 (w.heap.size) 67 #[.int .i64 a, .int .i64 b] := by rw [hW]; exact blkT
 have hLW1_p := kb_p.lt
 try clear kc_p kf_p
 clear hW
 refine (H1.out _ hB).mono ?_
 rintro e w1 ⟨A1, c1, rfl, ho1, hb⟩
 have hr_s := Row2.born ho1
 clear ho1
 replace hB := hB.trans (Below.mono hb hB.size)
 have hz_w1 : W1.heap.size ≤ w1.heap.size := Below.size hb
 replace kb_p := kb_p.mv hb; obtain ⟨kb_p, kc_p, kf_p, hl_p, hn_p⟩ := kb_p
 clear hb
 go_wp2_with fail
 refine (H2.out _ hB).mono ?_
 rintro e w2 ⟨rfl, hb⟩
 replace hB := hB.trans (Below.mono hb hB.size)
 have hz_w2 : w1.heap.size ≤ w2.heap.size := Below.size hb
 replace kb_p := kb_p.mv hb; obtain ⟨kb_p, kc_p, kf_p, hl_p, hn_p⟩ := kb_p
 replace hr_s := Row2.below hr_s hb (by omega)
 clear hb
 go_wp2_with fail
 refine (H3.out _ hB).mono ?_
 rintro e w3 ⟨rfl, hb⟩
 replace hB := hB.trans (Below.mono hb hB.size)
 have hz_w3 : w2.heap.size ≤ w3.heap.size := Below.size hb
 replace kb_p := kb_p.mv hb; obtain ⟨kb_p, kc_p, kf_p, hl_p, hn_p⟩ := kb_p
 replace hr_s := Row2.below hr_s hb (by omega)
 clear hb
 go_wp2_with fail
 refine bodyPost_ret (v := .tuple #[.slice A1 l.length c1, .bool false]) ?_ rfl ?_
 ·simp [results, Tryz.results102, go_sem]
 ·exact ⟨A1, c1, rfl, (Row2.mono (lo := W1.heap.size) (hi := w1.heap.size) (hi' := w1.heap.size) (by exact rowT) (by omega) (Nat.le_refl _)).1, by exact tacT⟩
set_option maxHeartbeats 12800000 in
theorem SellShare_no4 (A : Option Addr) (c : Nat) (l : List T3) (f t a b : Int) (w : World) (h : RdT w w.heap.size A c l) (hs : l.length ≤ 1048576) (g1 : rightsOk l = true) (k : Nat) (g2 : rightAt l f = (k : Int)) (g3 : f ≠ t) (g4 : inB t 1 999 = false) :
  Calls Tryz.prog 102 #[.slice A l.length c, .int .i64 f, .int .i64 t, .agg #[.int .i64 a, .int .i64 b]] w (SellRet (l, false) w) := by
 have hB := Below.refl w.heap.size w
 have H1 := Lib.hid (fun (W : World) (hb : Below w.heap.size w W) => copyRights_any A c l W (h.below hb) hs)
 have H2 := Lib.hid (fun (W : World) (hb : Below w.heap.size w W) => rightOf_any A c l f W (h.below hb))
 have H3 := Lib.hid (fun (W : World) (hb : Below w.heap.size w W) => RightsOk_any A c l W (h.below hb))
 have HF := Lib.hid (fun (W : World) => FractionOk_any a b W)
 rw [g1] at H3
 rw [g2] at H2
 have hk9 : ¬ (k : Int) < 0 := by omega
 have hk8 : decide ((k : Int) < 0) = false := by simp
 clear h g2
 have hft : (f == t) = false := by simp [g3]
 have HIN := Lib.hid g4
 go_enter Tryz.func102, Tryz.ntmps102
 go_wp2_with fail
 first | refine name_world ?_ | refine name_wp ?_
 intro W1 hW
 replace hB : Below w.heap.size w W1 := by rw [hW]; exact tacT
 have hz_W1 : w.heap.size ≤ W1.heap.size := by rw [hW]; exact sT
 replace kb_p : Blk W1 (w.heap.size) 67 #[.int .i64 a, .int .i64 b] := by rw [hW]; exact blkT
 have hLW1_p := kb_p.lt
 try clear kc_p kf_p
 clear hW
 refine (H1.out _ hB).mono ?_
 rintro e w1 ⟨A1, c1, rfl, ho1, hb⟩
 have hr_s := Row2.born ho1
 clear ho1
 replace hB := hB.trans (Below.mono hb hB.size)
 have hz_w1 : W1.heap.size ≤ w1.heap.size := Below.size hb
 replace kb_p := kb_p.mv hb; obtain ⟨kb_p, kc_p, kf_p, hl_p, hn_p⟩ := kb_p
 clear hb
 go_wp2_with fail
 refine (H2.out _ hB).mono ?_
 rintro e w2 ⟨rfl, hb⟩
 replace hB := hB.trans (Below.mono hb hB.size)
 have hz_w2 : w1.heap.size ≤ w2.heap.size := Below.size hb
 replace kb_p := kb_p.mv hb; obtain ⟨kb_p, kc_p, kf_p, hl_p, hn_p⟩ := kb_p
 replace hr_s := Row2.below hr_s hb (by omega)
 clear hb
 go_wp2_with fail
 refine (H3.out _ hB).mono ?_
 rintro e w3 ⟨rfl, hb⟩
 replace hB := hB.trans (Below.mono hb hB.size)
 have hz_w3 : w2.heap.size ≤ w3.heap.size := Below.size hb
 replace kb_p := kb_p.mv hb; obtain ⟨kb_p, kc_p, kf_p, hl_p, hn_p⟩ := kb_p
 replace hr_s := Row2.below hr_s hb (by omega)
 clear hb
 go_wp2_with fail
 refine (within_any _ _ _ _).mono ?_
 rw [HIN.out]
 rintro e w' ⟨rfl, rfl⟩
 go_wp2_with fail
 refine bodyPost_ret (v := .tuple #[.slice A1 l.length c1, .bool false]) ?_ rfl ?_
 ·simp [results, Tryz.results102, go_sem]
 ·exact ⟨A1, c1, rfl, (Row2.mono (lo := W1.heap.size) (hi := w1.heap.size) (hi' := w1.heap.size) (by exact rowT) (by omega) (Nat.le_refl _)).1, by exact tacT⟩
set_option maxHeartbeats 12800000 in
theorem SellShare_no5 (A : Option Addr) (c : Nat) (l : List T3) (f t a b : Int) (w : World) (h : RdT w w.heap.size A c l) (hs : l.length ≤ 1048576) (g1 : rightsOk l = true) (k : Nat) (g2 : rightAt l f = (k : Int)) (g3 : f ≠ t) (g4 : inB t 1 999 = true) (g5 : fracOk a b = false) :
  Calls Tryz.prog 102 #[.slice A l.length c, .int .i64 f, .int .i64 t, .agg #[.int .i64 a, .int .i64 b]] w (SellRet (l, false) w) := by
 have hB := Below.refl w.heap.size w
 have H1 := Lib.hid (fun (W : World) (hb : Below w.heap.size w W) => copyRights_any A c l W (h.below hb) hs)
 have H2 := Lib.hid (fun (W : World) (hb : Below w.heap.size w W) => rightOf_any A c l f W (h.below hb))
 have H3 := Lib.hid (fun (W : World) (hb : Below w.heap.size w W) => RightsOk_any A c l W (h.below hb))
 have HF := Lib.hid (fun (W : World) => FractionOk_any a b W)
 rw [g1] at H3
 rw [g2] at H2
 have hk9 : ¬ (k : Int) < 0 := by omega
 have hk8 : decide ((k : Int) < 0) = false := by simp
 clear h g2
 have hft : (f == t) = false := by simp [g3]
 have HIN := Lib.hid g4
 rw [g5] at HF
 go_enter Tryz.func102, Tryz.ntmps102
 go_wp2_with fail
 first | refine name_world ?_ | refine name_wp ?_
 intro W1 hW
 replace hB : Below w.heap.size w W1 := by rw [hW]; exact tacT
 have hz_W1 : w.heap.size ≤ W1.heap.size := by rw [hW]; exact sT
 replace kb_p : Blk W1 (w.heap.size) 67 #[.int .i64 a, .int .i64 b] := by rw [hW]; exact blkT
 have hLW1_p := kb_p.lt
 try clear kc_p kf_p
 clear hW
 refine (H1.out _ hB).mono ?_
 rintro e w1 ⟨A1, c1, rfl, ho1, hb⟩
 have hr_s := Row2.born ho1
 clear ho1
 replace hB := hB.trans (Below.mono hb hB.size)
 have hz_w1 : W1.heap.size ≤ w1.heap.size := Below.size hb
 replace kb_p := kb_p.mv hb; obtain ⟨kb_p, kc_p, kf_p, hl_p, hn_p⟩ := kb_p
 clear hb
 go_wp2_with fail
 refine (H2.out _ hB).mono ?_
 rintro e w2 ⟨rfl, hb⟩
 replace hB := hB.trans (Below.mono hb hB.size)
 have hz_w2 : w1.heap.size ≤ w2.heap.size := Below.size hb
 replace kb_p := kb_p.mv hb; obtain ⟨kb_p, kc_p, kf_p, hl_p, hn_p⟩ := kb_p
 replace hr_s := Row2.below hr_s hb (by omega)
 clear hb
 go_wp2_with fail
 refine (H3.out _ hB).mono ?_
 rintro e w3 ⟨rfl, hb⟩
 replace hB := hB.trans (Below.mono hb hB.size)
 have hz_w3 : w2.heap.size ≤ w3.heap.size := Below.size hb
 replace kb_p := kb_p.mv hb; obtain ⟨kb_p, kc_p, kf_p, hl_p, hn_p⟩ := kb_p
 replace hr_s := Row2.below hr_s hb (by omega)
 clear hb
 go_wp2_with fail
 refine (within_any _ _ _ _).mono ?_
 rw [HIN.out]
 rintro e w' ⟨rfl, rfl⟩
 go_wp2_with fail
 refine (HF.out _).mono ?_
 rintro e w4 ⟨rfl, hb⟩
 replace hB := hB.trans (Below.mono hb hB.size)
 have hz_w4 : w3.heap.size ≤ w4.heap.size := Below.size hb
 replace kb_p := kb_p.mv hb; obtain ⟨kb_p, kc_p, kf_p, hl_p, hn_p⟩ := kb_p
 replace hr_s := Row2.below hr_s hb (by omega)
 clear hb
 go_wp2_with fail
 refine bodyPost_ret (v := .tuple #[.slice A1 l.length c1, .bool false]) ?_ rfl ?_
 ·simp [results, Tryz.results102, go_sem]
 ·exact ⟨A1, c1, rfl, (Row2.mono (lo := W1.heap.size) (hi := w1.heap.size) (hi' := w1.heap.size) (by exact rowT) (by omega) (Nat.le_refl _)).1, by exact tacT⟩
set_option maxHeartbeats 12800000 in
theorem SellShare_no6 (A : Option Addr) (c : Nat) (l : List T3) (f t a b : Int) (w : World) (h : RdT w w.heap.size A c l) (hs : l.length ≤ 1048576) (g1 : rightsOk l = true) (k : Nat) (g2 : rightAt l f = (k : Int)) (g3 : f ≠ t) (g4 : inB t 1 999 = true) (g5 : fracOk a b = true) (g6 : b < a) :
  Calls Tryz.prog 102 #[.slice A l.length c, .int .i64 f, .int .i64 t, .agg #[.int .i64 a, .int .i64 b]] w (SellRet (l, false) w) := by
 have hB := Below.refl w.heap.size w
 have H1 := Lib.hid (fun (W : World) (hb : Below w.heap.size w W) => copyRights_any A c l W (h.below hb) hs)
 have H2 := Lib.hid (fun (W : World) (hb : Below w.heap.size w W) => rightOf_any A c l f W (h.below hb))
 have H3 := Lib.hid (fun (W : World) (hb : Below w.heap.size w W) => RightsOk_any A c l W (h.below hb))
 have HF := Lib.hid (fun (W : World) => FractionOk_any a b W)
 rw [g1] at H3
 rw [g2] at H2
 have hk9 : ¬ (k : Int) < 0 := by omega
 have hk8 : decide ((k : Int) < 0) = false := by simp
 clear h g2
 have hft : (f == t) = false := by simp [g3]
 have HIN := Lib.hid g4
 rw [g5] at HF
 go_enter Tryz.func102, Tryz.ntmps102
 go_wp2_with fail
 first | refine name_world ?_ | refine name_wp ?_
 intro W1 hW
 replace hB : Below w.heap.size w W1 := by rw [hW]; exact tacT
 have hz_W1 : w.heap.size ≤ W1.heap.size := by rw [hW]; exact sT
 replace kb_p : Blk W1 (w.heap.size) 67 #[.int .i64 a, .int .i64 b] := by rw [hW]; exact blkT
 have hLW1_p := kb_p.lt
 try clear kc_p kf_p
 clear hW
 refine (H1.out _ hB).mono ?_
 rintro e w1 ⟨A1, c1, rfl, ho1, hb⟩
 have hr_s := Row2.born ho1
 clear ho1
 replace hB := hB.trans (Below.mono hb hB.size)
 have hz_w1 : W1.heap.size ≤ w1.heap.size := Below.size hb
 replace kb_p := kb_p.mv hb; obtain ⟨kb_p, kc_p, kf_p, hl_p, hn_p⟩ := kb_p
 clear hb
 go_wp2_with fail
 refine (H2.out _ hB).mono ?_
 rintro e w2 ⟨rfl, hb⟩
 replace hB := hB.trans (Below.mono hb hB.size)
 have hz_w2 : w1.heap.size ≤ w2.heap.size := Below.size hb
 replace kb_p := kb_p.mv hb; obtain ⟨kb_p, kc_p, kf_p, hl_p, hn_p⟩ := kb_p
 replace hr_s := Row2.below hr_s hb (by omega)
 clear hb
 go_wp2_with fail
 refine (H3.out _ hB).mono ?_
 rintro e w3 ⟨rfl, hb⟩
 replace hB := hB.trans (Below.mono hb hB.size)
 have hz_w3 : w2.heap.size ≤ w3.heap.size := Below.size hb
 replace kb_p := kb_p.mv hb; obtain ⟨kb_p, kc_p, kf_p, hl_p, hn_p⟩ := kb_p
 replace hr_s := Row2.below hr_s hb (by omega)
 clear hb
 go_wp2_with fail
 refine (within_any _ _ _ _).mono ?_
 rw [HIN.out]
 rintro e w' ⟨rfl, rfl⟩
 go_wp2_with fail
 refine (HF.out _).mono ?_
 rintro e w4 ⟨rfl, hb⟩
 replace hB := hB.trans (Below.mono hb hB.size)
 have hz_w4 : w3.heap.size ≤ w4.heap.size := Below.size hb
 replace kb_p := kb_p.mv hb; obtain ⟨kb_p, kc_p, kf_p, hl_p, hn_p⟩ := kb_p
 replace hr_s := Row2.below hr_s hb (by omega)
 clear hb
 go_wp2_with fail
 refine bodyPost_ret (v := .tuple #[.slice A1 l.length c1, .bool false]) ?_ rfl ?_
 ·simp [results, Tryz.results102, go_sem]
 ·exact ⟨A1, c1, rfl, (Row2.mono (lo := W1.heap.size) (hi := w1.heap.size) (hi' := w1.heap.size) (by exact rowT) (by omega) (Nat.le_refl _)).1, by exact tacT⟩
set_option maxHeartbeats 12800000 in
theorem SellShare_m (A : Option Addr) (c : Nat) (l : List T3) (f t a b : Int) (w : World) (h : RdT w w.heap.size A c l) (hs : l.length ≤ 1048576) (g1 : rightsOk l = true) (k : Nat) (g2 : rightAt l f = (k : Int)) (g3 : f ≠ t) (g4 : inB t 1 999 = true) (g5 : fracOk a b = true) (g6 : a ≤ b) (x : T3) (gx : l[k]? = some x) (gf : x.x = f) (u1 u2 : Int) (hm : mulF x.y x.z a b = (u1, u2, false)) (gs : shareOf l f = (x.y, x.z)) :
  Calls Tryz.prog 102 #[.slice A l.length c, .int .i64 f, .int .i64 t, .agg #[.int .i64 a, .int .i64 b]] w (SellRet (sellF l f t a b) w) := by
 have hB := Below.refl w.heap.size w
 have H1 := Lib.hid (fun (W : World) (hb : Below w.heap.size w W) => copyRights_any A c l W (h.below hb) hs)
 have H2 := Lib.hid (fun (W : World) (hb : Below w.heap.size w W) => rightOf_any A c l f W (h.below hb))
 have H3 := Lib.hid (fun (W : World) (hb : Below w.heap.size w W) => RightsOk_any A c l W (h.below hb))
 have HF := Lib.hid (fun (W : World) => FractionOk_any a b W)
 have hG : sellG l f t a b = true := sellG_iff.2 ⟨g1, hasO_iff.2 (by omega), g3, g4, g5, g6⟩
 obtain ⟨hl12, hl1, hall⟩ := rights_facts g1
 obtain ⟨fx, y1, x1, x2⟩ := hall x (List.mem_of_getElem? gx)
 have hup := rights_up g1
 have HM : Hid (∀ W, Calls Tryz.prog 128 #[.agg #[.int .i64 x.y, .int .i64 x.z], .agg #[.int .i64 a, .int .i64 b]] W fun e w' => e = frRet (u1, u2, false) ∧ Below W.heap.size W w') := fun W => by rw [← hm]; exact TimesFraction_any _ _ _ _ W
 have hg6 : ¬ b < a := by omega
 have hg6' : decide (b < a) = false := by simp [hg6]
 have hpl := (List.getElem?_eq_some_iff.1 gx).1
 obtain ⟨bb, oo, x', hA9, hbb, hx', e0, e1, e2⟩ := h.at_ hpl
 subst hA9
 rw [gx] at hx'
 obtain rfl : x = x' := Option.some.inj hx'
 clear hx'
 have hk0 : (0 : Int) ≤ (k : Int) := by omega
 have hk1 : (k : Int) < (l.length : Int) := by omega
 have hlen : (l.length : Int) ≤ (c : Int) := by have := h.2.1; omega
 have hc63 : c ≤ 9223372036854775807 := h.2.2.1
 obtain ⟨r1, r2, rok, hr⟩ : ∃ r1 r2 rok, mulF x.y x.z (b - a) b = (r1, r2, rok) := ⟨_, _, _, rfl⟩
 have hst : sellF l f t a b = (l, false) := sellF_none (by rw [sellTo_is gs hm hr]; rfl)
 rw [hst]
 rw [g1] at H3
 rw [g2] at H2
 have hk9 : ¬ (k : Int) < 0 := by omega
 have hk8 : decide ((k : Int) < 0) = false := by simp
 clear h g2
 have hft : (f == t) = false := by simp [g3]
 have HIN := Lib.hid g4
 rw [g5] at HF
 clear hG hall hup hm hr hst gs gx g1 g3 g4 g5 g6
 go_enter Tryz.func102, Tryz.ntmps102
 go_wp2_with fail
 first | refine name_world ?_ | refine name_wp ?_
 intro W1 hW
 replace hB : Below w.heap.size w W1 := by rw [hW]; exact tacT
 have hz_W1 : w.heap.size ≤ W1.heap.size := by rw [hW]; exact sT
 replace kb_p : Blk W1 (w.heap.size) 67 #[.int .i64 a, .int .i64 b] := by rw [hW]; exact blkT
 have hLW1_p := kb_p.lt
 try clear kc_p kf_p
 clear hW
 refine (H1.out _ hB).mono ?_
 rintro e w1 ⟨A1, c1, rfl, ho1, hb⟩
 have hr_s := Row2.born ho1
 clear ho1
 replace hB := hB.trans (Below.mono hb hB.size)
 have hz_w1 : W1.heap.size ≤ w1.heap.size := Below.size hb
 replace kb_p := kb_p.mv hb; obtain ⟨kb_p, kc_p, kf_p, hl_p, hn_p⟩ := kb_p
 clear hb
 go_wp2_with fail
 refine (H2.out _ hB).mono ?_
 rintro e w2 ⟨rfl, hb⟩
 replace hB := hB.trans (Below.mono hb hB.size)
 have hz_w2 : w1.heap.size ≤ w2.heap.size := Below.size hb
 replace kb_p := kb_p.mv hb; obtain ⟨kb_p, kc_p, kf_p, hl_p, hn_p⟩ := kb_p
 replace hr_s := Row2.below hr_s hb (by omega)
 clear hb
 go_wp2_with fail
 refine (H3.out _ hB).mono ?_
 rintro e w3 ⟨rfl, hb⟩
 replace hB := hB.trans (Below.mono hb hB.size)
 have hz_w3 : w2.heap.size ≤ w3.heap.size := Below.size hb
 replace kb_p := kb_p.mv hb; obtain ⟨kb_p, kc_p, kf_p, hl_p, hn_p⟩ := kb_p
 replace hr_s := Row2.below hr_s hb (by omega)
 clear hb
 go_wp2_with fail
 refine (within_any _ _ _ _).mono ?_
 rw [HIN.out]
 rintro e w' ⟨rfl, rfl⟩
 go_wp2_with fail
 refine (HF.out _).mono ?_
 rintro e w4 ⟨rfl, hb⟩
 replace hB := hB.trans (Below.mono hb hB.size)
 have hz_w4 : w3.heap.size ≤ w4.heap.size := Below.size hb
 replace kb_p := kb_p.mv hb; obtain ⟨kb_p, kc_p, kf_p, hl_p, hn_p⟩ := kb_p
 replace hr_s := Row2.below hr_s hb (by omega)
 clear hb
 go_wp2_with fail
 have f1 : w4.cell? ⟨bb, oo + k * 3 + 1, none⟩ = some (.int .i64 x.y) := (hB.cell (p := ⟨bb, _, none⟩) hbb).trans e1
 have f2 : w4.cell? ⟨bb, oo + k * 3 + 2, none⟩ = some (.int .i64 x.z) := (hB.cell (p := ⟨bb, _, none⟩) hbb).trans e2
 have hlb : bb < w4.heap.size := by omega
 have hlp := hl_p
 go_region_held3 (fun w' => w'.cell? ⟨w.heap.size, 0, none⟩ = some (.int .i64 a) ∧ w'.cell? ⟨w.heap.size, 1, none⟩ = some (.int .i64 b) ∧ w'.cell? ⟨bb, oo + k * 3 + 1, none⟩ = some (.int .i64 x.y) ∧ w'.cell? ⟨bb, oo + k * 3 + 2, none⟩ = some (.int .i64 x.z)) (first | (with_reducible exact ⟨kc_p 0, kc_p 1, f1, f2⟩) | (refine ⟨?_, ?_, ?_, ?_⟩ <;> simp [go_sem, kc_p 0, kc_p 1, f1, f2, hlb, hlp]; done) | (with_reducible exact ⟨y5_0, y5_1, y5_2, y5_3⟩) | (refine ⟨?_, ?_, ?_, ?_⟩ <;> simp [go_sem, y5_0, y5_1, y5_2, y5_3, hlb, hlp, n5_0, l5_0, n5_1, l5_1, n5_2, l5_2, n5_3, l5_3]; done) | exact ⟨kc_p 0, kc_p 1, f1, f2⟩)
  (((go_at_call 128; refine (HM.out _).mono ?_; rintro e w5 ⟨rfl, hb5⟩; unfold frRet; have hB5 : Below w.heap.size w w5 := (by exact tacT); have hz5 : w4.heap.size ≤ w5.heap.size := (by have hzz := Below.size hb5; first | omega | (simp at hzz; omega)); have l5_0 : w.heap.size < w5.heap.size := (by omega); have n5_0 := Nat.ne_of_lt l5_0; have y5_0 : w5.cell? ⟨w.heap.size, 0, none⟩ = some (.int .i64 a) := (Below.cell hb5 (p := ⟨w.heap.size, 0, none⟩) (by first | (simp; done) | (simp; omega) | omega)).trans (by first | exact kc_p 0 | (simp [go_sem, kc_p 0, hlb, hlp]; done)); have l5_1 : w.heap.size < w5.heap.size := (by omega); have n5_1 := Nat.ne_of_lt l5_1; have y5_1 : w5.cell? ⟨w.heap.size, 1, none⟩ = some (.int .i64 b) := (Below.cell hb5 (p := ⟨w.heap.size, 1, none⟩) (by first | (simp; done) | (simp; omega) | omega)).trans (by first | exact kc_p 1 | (simp [go_sem, kc_p 1, hlb, hlp]; done)); have l5_2 : bb < w5.heap.size := (by omega); have n5_2 := Nat.ne_of_lt l5_2; have y5_2 : w5.cell? ⟨bb, oo + k * 3 + 1, none⟩ = some (.int .i64 x.y) := (Below.cell hb5 (p := ⟨bb, oo + k * 3 + 1, none⟩) (by first | (simp; done) | (simp; omega) | omega)).trans (by first | exact f1 | (simp [go_sem, f1, hlb, hlp]; done)); have l5_3 : bb < w5.heap.size := (by omega); have n5_3 := Nat.ne_of_lt l5_3; have y5_3 : w5.cell? ⟨bb, oo + k * 3 + 2, none⟩ = some (.int .i64 x.z) := (Below.cell hb5 (p := ⟨bb, oo + k * 3 + 2, none⟩) (by first | (simp; done) | (simp; omega) | omega)).trans (by first | exact f2 | (simp [go_sem, f2, hlb, hlp]; done)); have kb5_p : Blk w5 (w.heap.size) 67 #[.int .i64 a, .int .i64 b] := Blk.below (by exact blkT) hb5 (by first | (simp; done) | (simp; omega) | omega); have kc5_p := kb5_p.cells; have kf5_p := kb5_p.frozens; have hl5_p := kb5_p.lt; have hn5_p := Nat.ne_of_lt hl5_p; try (have kb9 : Blk w5 w4.heap.size 67 #[.int .i64 0, .int .i64 0] := Blk.below (by exact blkT) hb5 (by exact sT); have kc9 := kb9.cells; have kf9 := kb9.frozens; have hl9 := kb9.lt; have hn9 := Nat.ne_of_lt hl9; have m0 : w.heap.size ≠ w4.heap.size := (by omega); have k0 : w4.heap.size ≠ w.heap.size := (by omega); have m1 : bb ≠ w4.heap.size := (by omega); have k1 : w4.heap.size ≠ bb := (by omega)))))
 all_goals
  have hr_s5 : Row2 w5 W1.heap.size w1.heap.size 69 3 A1 l.length c1 (t3s l) := Row2.below (by exact rowT) hb5 (by exact oT)
  go_wp2_with fail
  refine bodyPost_ret (v := .tuple #[.slice A1 l.length c1, .bool false]) ?_ rfl ?_
  ·simp [results, Tryz.results102, go_sem]
  ·exact ⟨A1, c1, rfl, (Row2.mono (lo := W1.heap.size) (hi := w1.heap.size) (hi' := w1.heap.size) (by exact rowT) (by omega) (Nat.le_refl _)).1, by exact tacT⟩
set_option maxHeartbeats 12800000 in
theorem SellShare_r (A : Option Addr) (c : Nat) (l : List T3) (f t a b : Int) (w : World) (h : RdT w w.heap.size A c l) (hs : l.length ≤ 1048576) (g1 : rightsOk l = true) (k : Nat) (g2 : rightAt l f = (k : Int)) (g3 : f ≠ t) (g4 : inB t 1 999 = true) (g5 : fracOk a b = true) (g6 : a ≤ b) (x : T3) (gx : l[k]? = some x) (gf : x.x = f) (u1 u2 : Int) (hm : mulF x.y x.z a b = (u1, u2, true)) (r1 r2 : Int) (hr : mulF x.y x.z (b - a) b = (r1, r2, false)) (gs : shareOf l f = (x.y, x.z)) :
  Calls Tryz.prog 102 #[.slice A l.length c, .int .i64 f, .int .i64 t, .agg #[.int .i64 a, .int .i64 b]] w (SellRet (sellF l f t a b) w) := by
 have hB := Below.refl w.heap.size w
 have H1 := Lib.hid (fun (W : World) (hb : Below w.heap.size w W) => copyRights_any A c l W (h.below hb) hs)
 have H2 := Lib.hid (fun (W : World) (hb : Below w.heap.size w W) => rightOf_any A c l f W (h.below hb))
 have H3 := Lib.hid (fun (W : World) (hb : Below w.heap.size w W) => RightsOk_any A c l W (h.below hb))
 have HF := Lib.hid (fun (W : World) => FractionOk_any a b W)
 have hG : sellG l f t a b = true := sellG_iff.2 ⟨g1, hasO_iff.2 (by omega), g3, g4, g5, g6⟩
 obtain ⟨hl12, hl1, hall⟩ := rights_facts g1
 obtain ⟨fx, y1, x1, x2⟩ := hall x (List.mem_of_getElem? gx)
 have hup := rights_up g1
 have HM : Hid (∀ W, Calls Tryz.prog 128 #[.agg #[.int .i64 x.y, .int .i64 x.z], .agg #[.int .i64 a, .int .i64 b]] W fun e w' => e = frRet (u1, u2, true) ∧ Below W.heap.size W w') := fun W => by rw [← hm]; exact TimesFraction_any _ _ _ _ W
 have hg6 : ¬ b < a := by omega
 have hg6' : decide (b < a) = false := by simp [hg6]
 have hpl := (List.getElem?_eq_some_iff.1 gx).1
 obtain ⟨bb, oo, x', hA9, hbb, hx', e0, e1, e2⟩ := h.at_ hpl
 subst hA9
 rw [gx] at hx'
 obtain rfl : x = x' := Option.some.inj hx'
 clear hx'
 have hk0 : (0 : Int) ≤ (k : Int) := by omega
 have hk1 : (k : Int) < (l.length : Int) := by omega
 have hlen : (l.length : Int) ≤ (c : Int) := by have := h.2.1; omega
 have hc63 : c ≤ 9223372036854775807 := h.2.2.1
 have hless : lessF x.y x.z u1 u2 = (r1, r2, false) := by rw [less_mul fx g5 g6 hm, hr]
 have HL : Hid (∀ W, Calls Tryz.prog 129 #[.agg #[.int .i64 x.y, .int .i64 x.z], .agg #[.int .i64 u1, .int .i64 u2]] W fun e w' => e = frRet (r1, r2, false) ∧ Below W.heap.size W w') := fun W => by rw [← hless]; exact lessFraction_any _ _ _ _ W
 have hst : sellF l f t a b = (l, false) := sellF_none (by rw [sellTo_is gs hm hr]; rfl)
 rw [hst]
 clear hst
 rw [g1] at H3
 rw [g2] at H2
 have hk9 : ¬ (k : Int) < 0 := by omega
 have hk8 : decide ((k : Int) < 0) = false := by simp
 clear h g2
 have hft : (f == t) = false := by simp [g3]
 have HIN := Lib.hid g4
 rw [g5] at HF
 clear hG hall hup hm hr hless gs gx g1 g3 g4 g5 g6
 go_enter Tryz.func102, Tryz.ntmps102
 go_wp2_with fail
 first | refine name_world ?_ | refine name_wp ?_
 intro W1 hW
 replace hB : Below w.heap.size w W1 := by rw [hW]; exact tacT
 have hz_W1 : w.heap.size ≤ W1.heap.size := by rw [hW]; exact sT
 replace kb_p : Blk W1 (w.heap.size) 67 #[.int .i64 a, .int .i64 b] := by rw [hW]; exact blkT
 have hLW1_p := kb_p.lt
 try clear kc_p kf_p
 clear hW
 refine (H1.out _ hB).mono ?_
 rintro e w1 ⟨A1, c1, rfl, ho1, hb⟩
 have hr_s := Row2.born ho1
 clear ho1
 replace hB := hB.trans (Below.mono hb hB.size)
 have hz_w1 : W1.heap.size ≤ w1.heap.size := Below.size hb
 replace kb_p := kb_p.mv hb; obtain ⟨kb_p, kc_p, kf_p, hl_p, hn_p⟩ := kb_p
 clear hb
 go_wp2_with fail
 refine (H2.out _ hB).mono ?_
 rintro e w2 ⟨rfl, hb⟩
 replace hB := hB.trans (Below.mono hb hB.size)
 have hz_w2 : w1.heap.size ≤ w2.heap.size := Below.size hb
 replace kb_p := kb_p.mv hb; obtain ⟨kb_p, kc_p, kf_p, hl_p, hn_p⟩ := kb_p
 replace hr_s := Row2.below hr_s hb (by omega)
 clear hb
 go_wp2_with fail
 refine (H3.out _ hB).mono ?_
 rintro e w3 ⟨rfl, hb⟩
 replace hB := hB.trans (Below.mono hb hB.size)
 have hz_w3 : w2.heap.size ≤ w3.heap.size := Below.size hb
 replace kb_p := kb_p.mv hb; obtain ⟨kb_p, kc_p, kf_p, hl_p, hn_p⟩ := kb_p
 replace hr_s := Row2.below hr_s hb (by omega)
 clear hb
 go_wp2_with fail
 refine (within_any _ _ _ _).mono ?_
 rw [HIN.out]
 rintro e w' ⟨rfl, rfl⟩
 go_wp2_with fail
 refine (HF.out _).mono ?_
 rintro e w4 ⟨rfl, hb⟩
 replace hB := hB.trans (Below.mono hb hB.size)
 have hz_w4 : w3.heap.size ≤ w4.heap.size := Below.size hb
 replace kb_p := kb_p.mv hb; obtain ⟨kb_p, kc_p, kf_p, hl_p, hn_p⟩ := kb_p
 replace hr_s := Row2.below hr_s hb (by omega)
 clear hb
 go_wp2_with fail
 have f1 : w4.cell? ⟨bb, oo + k * 3 + 1, none⟩ = some (.int .i64 x.y) := (hB.cell (p := ⟨bb, _, none⟩) hbb).trans e1
 have f2 : w4.cell? ⟨bb, oo + k * 3 + 2, none⟩ = some (.int .i64 x.z) := (hB.cell (p := ⟨bb, _, none⟩) hbb).trans e2
 have hlb : bb < w4.heap.size := by omega
 have hlp := hl_p
 go_region_held3 (fun w' => w'.cell? ⟨w.heap.size, 0, none⟩ = some (.int .i64 a) ∧ w'.cell? ⟨w.heap.size, 1, none⟩ = some (.int .i64 b) ∧ w'.cell? ⟨bb, oo + k * 3 + 1, none⟩ = some (.int .i64 x.y) ∧ w'.cell? ⟨bb, oo + k * 3 + 2, none⟩ = some (.int .i64 x.z)) (first | (with_reducible exact ⟨kc_p 0, kc_p 1, f1, f2⟩) | (refine ⟨?_, ?_, ?_, ?_⟩ <;> simp [go_sem, kc_p 0, kc_p 1, f1, f2, hlb, hlp]; done) | (with_reducible exact ⟨y5_0, y5_1, y5_2, y5_3⟩) | (refine ⟨?_, ?_, ?_, ?_⟩ <;> simp [go_sem, y5_0, y5_1, y5_2, y5_3, hlb, hlp, n5_0, l5_0, n5_1, l5_1, n5_2, l5_2, n5_3, l5_3]; done) | exact ⟨kc_p 0, kc_p 1, f1, f2⟩)
  (((go_at_call 128; refine (HM.out _).mono ?_; rintro e w5 ⟨rfl, hb5⟩; unfold frRet; have hB5 : Below w.heap.size w w5 := (by exact tacT); have hz5 : w4.heap.size ≤ w5.heap.size := (by have hzz := Below.size hb5; first | omega | (simp at hzz; omega)); have l5_0 : w.heap.size < w5.heap.size := (by omega); have n5_0 := Nat.ne_of_lt l5_0; have y5_0 : w5.cell? ⟨w.heap.size, 0, none⟩ = some (.int .i64 a) := (Below.cell hb5 (p := ⟨w.heap.size, 0, none⟩) (by first | (simp; done) | (simp; omega) | omega)).trans (by first | exact kc_p 0 | (simp [go_sem, kc_p 0, hlb, hlp]; done)); have l5_1 : w.heap.size < w5.heap.size := (by omega); have n5_1 := Nat.ne_of_lt l5_1; have y5_1 : w5.cell? ⟨w.heap.size, 1, none⟩ = some (.int .i64 b) := (Below.cell hb5 (p := ⟨w.heap.size, 1, none⟩) (by first | (simp; done) | (simp; omega) | omega)).trans (by first | exact kc_p 1 | (simp [go_sem, kc_p 1, hlb, hlp]; done)); have l5_2 : bb < w5.heap.size := (by omega); have n5_2 := Nat.ne_of_lt l5_2; have y5_2 : w5.cell? ⟨bb, oo + k * 3 + 1, none⟩ = some (.int .i64 x.y) := (Below.cell hb5 (p := ⟨bb, oo + k * 3 + 1, none⟩) (by first | (simp; done) | (simp; omega) | omega)).trans (by first | exact f1 | (simp [go_sem, f1, hlb, hlp]; done)); have l5_3 : bb < w5.heap.size := (by omega); have n5_3 := Nat.ne_of_lt l5_3; have y5_3 : w5.cell? ⟨bb, oo + k * 3 + 2, none⟩ = some (.int .i64 x.z) := (Below.cell hb5 (p := ⟨bb, oo + k * 3 + 2, none⟩) (by first | (simp; done) | (simp; omega) | omega)).trans (by first | exact f2 | (simp [go_sem, f2, hlb, hlp]; done)); have kb5_p : Blk w5 (w.heap.size) 67 #[.int .i64 a, .int .i64 b] := Blk.below (by exact blkT) hb5 (by first | (simp; done) | (simp; omega) | omega); have kc5_p := kb5_p.cells; have kf5_p := kb5_p.frozens; have hl5_p := kb5_p.lt; have hn5_p := Nat.ne_of_lt hl5_p; try (have kb9 : Blk w5 w4.heap.size 67 #[.int .i64 0, .int .i64 0] := Blk.below (by exact blkT) hb5 (by exact sT); have kc9 := kb9.cells; have kf9 := kb9.frozens; have hl9 := kb9.lt; have hn9 := Nat.ne_of_lt hl9; have m0 : w.heap.size ≠ w4.heap.size := (by omega); have k0 : w4.heap.size ≠ w.heap.size := (by omega); have m1 : bb ≠ w4.heap.size := (by omega); have k1 : w4.heap.size ≠ bb := (by omega)))))
 ·have hr_s5 : Row2 w5 W1.heap.size w1.heap.size 69 3 A1 l.length c1 (t3s l) := Row2.below (by exact rowT) hb5 (by exact oT)
  go_upto_region 6 with fail
  first | refine name_world ?_ | refine name_wp ?_
  intro W5 hW
  replace hB : Below w.heap.size w W5 := by rw [hW]; exact tacT
  have hz_W5 : w5.heap.size ≤ W5.heap.size := by rw [hW]; exact sT
  replace kb_m : Blk W5 (w5.heap.size) 67 #[.int .i64 u1, .int .i64 u2] := by rw [hW]; exact blkT
  have hLW5_m := kb_m.lt
  replace hr_s : Row2 W5 (W1.heap.size) (w1.heap.size) 69 3 A1 (l.length) c1 (t3s l) := by rw [hW]; exact rowT
  try clear kc_m kf_m
  clear hW
  clear hr_s5 kb5_p kc5_p kf5_p hl5_p hn5_p
  have kc_m := kb_m.cells
  have kf_m := kb_m.frozens
  have hl_m := kb_m.lt
  have hn_m := Nat.ne_of_lt kb_m.lt
  go_wp2_with fail
  have f1' : W5.cell? ⟨bb, oo + k * 3 + 1, none⟩ = some (.int .i64 x.y) := (hB.cell (p := ⟨bb, _, none⟩) hbb).trans e1
  have f2' : W5.cell? ⟨bb, oo + k * 3 + 2, none⟩ = some (.int .i64 x.z) := (hB.cell (p := ⟨bb, _, none⟩) hbb).trans e2
  have hlb' : bb < W5.heap.size := by omega
  go_region_held3 (fun w' => w'.cell? ⟨w5.heap.size, 0, none⟩ = some (.int .i64 u1) ∧ w'.cell? ⟨w5.heap.size, 1, none⟩ = some (.int .i64 u2) ∧ w'.cell? ⟨bb, oo + k * 3 + 1, none⟩ = some (.int .i64 x.y) ∧ w'.cell? ⟨bb, oo + k * 3 + 2, none⟩ = some (.int .i64 x.z)) (first | (with_reducible exact ⟨kc_m 0, kc_m 1, f1', f2'⟩) | (refine ⟨?_, ?_, ?_, ?_⟩ <;> simp [go_sem, kc_m 0, kc_m 1, f1', f2', hlb', hl_m]; done) | (with_reducible exact ⟨y7_0, y7_1, y7_2, y7_3⟩) | (refine ⟨?_, ?_, ?_, ?_⟩ <;> simp [go_sem, y7_0, y7_1, y7_2, y7_3, hlb', hl_m, n7_0, l7_0, n7_1, l7_1, n7_2, l7_2, n7_3, l7_3]; done) | exact ⟨kc_m 0, kc_m 1, f1', f2'⟩)
   (((go_at_call 129; refine (HL.out _).mono ?_; rintro e w7 ⟨rfl, hb7⟩; unfold frRet; have hB7 : Below w.heap.size w w7 := (by exact tacT); have hz7 : W5.heap.size ≤ w7.heap.size := (by have hzz := Below.size hb7; first | omega | (simp at hzz; omega)); have l7_0 : w5.heap.size < w7.heap.size := (by omega); have n7_0 := Nat.ne_of_lt l7_0; have y7_0 : w7.cell? ⟨w5.heap.size, 0, none⟩ = some (.int .i64 u1) := (Below.cell hb7 (p := ⟨w5.heap.size, 0, none⟩) (by first | (simp; done) | (simp; omega) | omega)).trans (by first | exact kc_m 0 | (simp [go_sem, kc_m 0, hlb', hl_m]; done)); have l7_1 : w5.heap.size < w7.heap.size := (by omega); have n7_1 := Nat.ne_of_lt l7_1; have y7_1 : w7.cell? ⟨w5.heap.size, 1, none⟩ = some (.int .i64 u2) := (Below.cell hb7 (p := ⟨w5.heap.size, 1, none⟩) (by first | (simp; done) | (simp; omega) | omega)).trans (by first | exact kc_m 1 | (simp [go_sem, kc_m 1, hlb', hl_m]; done)); have l7_2 : bb < w7.heap.size := (by omega); have n7_2 := Nat.ne_of_lt l7_2; have y7_2 : w7.cell? ⟨bb, oo + k * 3 + 1, none⟩ = some (.int .i64 x.y) := (Below.cell hb7 (p := ⟨bb, oo + k * 3 + 1, none⟩) (by first | (simp; done) | (simp; omega) | omega)).trans (by first | exact f1' | (simp [go_sem, f1', hlb', hl_m]; done)); have l7_3 : bb < w7.heap.size := (by omega); have n7_3 := Nat.ne_of_lt l7_3; have y7_3 : w7.cell? ⟨bb, oo + k * 3 + 2, none⟩ = some (.int .i64 x.z) := (Below.cell hb7 (p := ⟨bb, oo + k * 3 + 2, none⟩) (by first | (simp; done) | (simp; omega) | omega)).trans (by first | exact f2' | (simp [go_sem, f2', hlb', hl_m]; done)); have kb7_m : Blk w7 (w5.heap.size) 67 #[.int .i64 u1, .int .i64 u2] := Blk.below (by exact blkT) hb7 (by first | (simp; done) | (simp; omega) | omega); have kc7_m := kb7_m.cells; have kf7_m := kb7_m.frozens; have hl7_m := kb7_m.lt; have hn7_m := Nat.ne_of_lt hl7_m; try (have kb9 : Blk w7 W5.heap.size 67 #[.int .i64 0, .int .i64 0] := Blk.below (by exact blkT) hb7 (by exact sT); have kc9 := kb9.cells; have kf9 := kb9.frozens; have hl9 := kb9.lt; have hn9 := Nat.ne_of_lt hl9; have m0 : w5.heap.size ≠ W5.heap.size := (by omega); have k0 : W5.heap.size ≠ w5.heap.size := (by omega); have m1 : bb ≠ W5.heap.size := (by omega); have k1 : W5.heap.size ≠ bb := (by omega)))))
  all_goals
   have hr_s7 : Row2 w7 W1.heap.size w1.heap.size 69 3 A1 l.length c1 (t3s l) := Row2.below (by exact rowT) hb7 (by exact oT)
   go_wp2_with fail
   refine bodyPost_ret (v := .tuple #[.slice A1 l.length c1, .bool false]) ?_ rfl ?_
   ·simp [results, Tryz.results102, go_sem]
   ·exact ⟨A1, c1, rfl, (Row2.mono (lo := W1.heap.size) (hi := w1.heap.size) (hi' := w1.heap.size) (by exact rowT) (by omega) (Nat.le_refl _)).1, by exact tacT⟩
 ·have hr_s5 : Row2 w5 W1.heap.size w1.heap.size 69 3 A1 l.length c1 (t3s l) := Row2.below (by exact rowT) hb5 (by exact oT)
  go_upto_region 6 with fail
  first | refine name_world ?_ | refine name_wp ?_
  intro W5 hW
  replace hB : Below w.heap.size w W5 := by rw [hW]; exact tacT
  have hz_W5 : w5.heap.size ≤ W5.heap.size := by rw [hW]; exact sT
  replace kb_m : Blk W5 (w4.heap.size) 67 #[.int .i64 u1, .int .i64 u2] := by rw [hW]; exact blkT
  have hLW5_m := kb_m.lt
  replace hr_s : Row2 W5 (W1.heap.size) (w1.heap.size) 69 3 A1 (l.length) c1 (t3s l) := by rw [hW]; exact rowT
  try clear kc_m kf_m
  clear hW
  clear hr_s5 kb5_p kc5_p kf5_p hl5_p hn5_p
  have kc_m := kb_m.cells
  have kf_m := kb_m.frozens
  have hl_m := kb_m.lt
  have hn_m := Nat.ne_of_lt kb_m.lt
  go_wp2_with fail
  have f1' : W5.cell? ⟨bb, oo + k * 3 + 1, none⟩ = some (.int .i64 x.y) := (hB.cell (p := ⟨bb, _, none⟩) hbb).trans e1
  have f2' : W5.cell? ⟨bb, oo + k * 3 + 2, none⟩ = some (.int .i64 x.z) := (hB.cell (p := ⟨bb, _, none⟩) hbb).trans e2
  have hlb' : bb < W5.heap.size := by omega
  go_region_held3 (fun w' => w'.cell? ⟨w4.heap.size, 0, none⟩ = some (.int .i64 u1) ∧ w'.cell? ⟨w4.heap.size, 1, none⟩ = some (.int .i64 u2) ∧ w'.cell? ⟨bb, oo + k * 3 + 1, none⟩ = some (.int .i64 x.y) ∧ w'.cell? ⟨bb, oo + k * 3 + 2, none⟩ = some (.int .i64 x.z)) (first | (with_reducible exact ⟨kc_m 0, kc_m 1, f1', f2'⟩) | (refine ⟨?_, ?_, ?_, ?_⟩ <;> simp [go_sem, kc_m 0, kc_m 1, f1', f2', hlb', hl_m]; done) | (with_reducible exact ⟨y7_0, y7_1, y7_2, y7_3⟩) | (refine ⟨?_, ?_, ?_, ?_⟩ <;> simp [go_sem, y7_0, y7_1, y7_2, y7_3, hlb', hl_m, n7_0, l7_0, n7_1, l7_1, n7_2, l7_2, n7_3, l7_3]; done) | exact ⟨kc_m 0, kc_m 1, f1', f2'⟩)
   (((go_at_call 129; refine (HL.out _).mono ?_; rintro e w7 ⟨rfl, hb7⟩; unfold frRet; have hB7 : Below w.heap.size w w7 := (by exact tacT); have hz7 : W5.heap.size ≤ w7.heap.size := (by have hzz := Below.size hb7; first | omega | (simp at hzz; omega)); have l7_0 : w4.heap.size < w7.heap.size := (by omega); have n7_0 := Nat.ne_of_lt l7_0; have y7_0 : w7.cell? ⟨w4.heap.size, 0, none⟩ = some (.int .i64 u1) := (Below.cell hb7 (p := ⟨w4.heap.size, 0, none⟩) (by first | (simp; done) | (simp; omega) | omega)).trans (by first | exact kc_m 0 | (simp [go_sem, kc_m 0, hlb', hl_m]; done)); have l7_1 : w4.heap.size < w7.heap.size := (by omega); have n7_1 := Nat.ne_of_lt l7_1; have y7_1 : w7.cell? ⟨w4.heap.size, 1, none⟩ = some (.int .i64 u2) := (Below.cell hb7 (p := ⟨w4.heap.size, 1, none⟩) (by first | (simp; done) | (simp; omega) | omega)).trans (by first | exact kc_m 1 | (simp [go_sem, kc_m 1, hlb', hl_m]; done)); have l7_2 : bb < w7.heap.size := (by omega); have n7_2 := Nat.ne_of_lt l7_2; have y7_2 : w7.cell? ⟨bb, oo + k * 3 + 1, none⟩ = some (.int .i64 x.y) := (Below.cell hb7 (p := ⟨bb, oo + k * 3 + 1, none⟩) (by first | (simp; done) | (simp; omega) | omega)).trans (by first | exact f1' | (simp [go_sem, f1', hlb', hl_m]; done)); have l7_3 : bb < w7.heap.size := (by omega); have n7_3 := Nat.ne_of_lt l7_3; have y7_3 : w7.cell? ⟨bb, oo + k * 3 + 2, none⟩ = some (.int .i64 x.z) := (Below.cell hb7 (p := ⟨bb, oo + k * 3 + 2, none⟩) (by first | (simp; done) | (simp; omega) | omega)).trans (by first | exact f2' | (simp [go_sem, f2', hlb', hl_m]; done)); have kb7_m : Blk w7 (w4.heap.size) 67 #[.int .i64 u1, .int .i64 u2] := Blk.below (by exact blkT) hb7 (by first | (simp; done) | (simp; omega) | omega); have kc7_m := kb7_m.cells; have kf7_m := kb7_m.frozens; have hl7_m := kb7_m.lt; have hn7_m := Nat.ne_of_lt hl7_m; try (have kb9 : Blk w7 W5.heap.size 67 #[.int .i64 0, .int .i64 0] := Blk.below (by exact blkT) hb7 (by exact sT); have kc9 := kb9.cells; have kf9 := kb9.frozens; have hl9 := kb9.lt; have hn9 := Nat.ne_of_lt hl9; have m0 : w4.heap.size ≠ W5.heap.size := (by omega); have k0 : W5.heap.size ≠ w4.heap.size := (by omega); have m1 : bb ≠ W5.heap.size := (by omega); have k1 : W5.heap.size ≠ bb := (by omega)))))
  all_goals
   have hr_s7 : Row2 w7 W1.heap.size w1.heap.size 69 3 A1 l.length c1 (t3s l) := Row2.below (by exact rowT) hb7 (by exact oT)
   go_wp2_with fail
   refine bodyPost_ret (v := .tuple #[.slice A1 l.length c1, .bool false]) ?_ rfl ?_
   ·simp [results, Tryz.results102, go_sem]
   ·exact ⟨A1, c1, rfl, (Row2.mono (lo := W1.heap.size) (hi := w1.heap.size) (hi' := w1.heap.size) (by exact rowT) (by omega) (Nat.le_refl _)).1, by exact tacT⟩
end
end Go.Proofs.YtpmmjhpmheooeaaGreatDoor
