/- Texts of the proof, joined: Inherit, InheritS. -/
import Derived.Test.YtpmmjhpmheooeaaGreatDoorQ25
import Derived.Test.YtpmmjhpmheooeaaGreatDoorQ15
import Derived.Test.YtpmmjhpmheooeaaGreatDoorQ14
import Derived.Test.YtpmmjhpmheooeaaGreatDoorQ16
import Derived.Test.YtpmmjhpmheooeaaGreatDoorQ18
import Derived.BigQuiet
namespace Go.Proofs.YtpmmjhpmheooeaaGreatDoor
set_option linter.unusedSimpArgs false
set_option linter.unusedVariables false
section
open Go.RowKit
set_option maxRecDepth 20000
theorem Blk.chg {w w' : World} {lo hi g : Nat} {t : TypeId} {cs : Array Value} (h : Blk w g t cs) (hc : Chg lo hi w w') (hn : g < lo ∨ hi ≤ g) : Blk w' g t cs := (hc.block g h.lt hn).trans h
theorem riseB_pos : ∀ (hs : List Int) (p : Int), riseB p hs = true → ∀ x ∈ hs, 1 ≤ x
 | [], _, _, _, hx => by simp at hx
 |y :: hs, p, h, x, hx => by
  rw [riseB_cons] at h
  simp only [Bool.and_eq_true] at h
  rcases List.mem_cons.1 hx with rfl | hx
  ·exact (inB_iff.1 h.1.1).1
  ·exact riseB_pos hs y h.2 x hx
set_option maxHeartbeats 12800000 in
theorem Inherit_no1 (A : Option Addr) (c : Nat) (l : List T3) (o : Int) (B : Option Addr) (d : Nat) (hs : List Int) (w : World) (h : RdT w w.heap.size A c l) (hi : RdI w w.heap.size B d hs) (hsz : l.length ≤ 1048576) (g1 : rightsOk l = false) :
  Calls Tryz.prog 103 #[.slice A l.length c, .int .i64 o, .slice B hs.length d] w (SellRet (l, false) w) := by
 have hB := Below.refl w.heap.size w
 have hil := hi.le
 have H1 := Lib.hid (fun (W : World) (hb : Below w.heap.size w W) => copyRights_any A c l W (h.below hb) hsz)
 have H2 := Lib.hid (fun (W : World) (hb : Below w.heap.size w W) => rightOf_any A c l o W (h.below hb))
 have H3 := Lib.hid (fun (W : World) (hb : Below w.heap.size w W) => RightsOk_any A c l W (h.below hb))
 have H4 := Lib.hid (fun (W : World) (hb : Below w.heap.size w W) => rising_any B d hs W (hi.below hb))
 have H5 := Lib.hid (fun (W : World) (hb : Below w.heap.size w W) => hasInt_any B d hs o W (hi.below hb))
 rw [g1] at H3
 go_enter Tryz.func103, Tryz.ntmps103
 go_wp2_with fail
 refine (H1.out _ hB).mono ?_
 rintro e w1 ⟨A1, c1, rfl, ho1, hb⟩
 have hr_s := Row2.born ho1
 clear ho1
 replace hB := hB.trans (Below.mono hb hB.size)
 have hz_w1 : w.heap.size ≤ w1.heap.size := Below.size hb
 clear hb
 go_wp2_with fail
 refine (H2.out _ hB).mono ?_
 rintro e w2 ⟨rfl, hb⟩
 replace hB := hB.trans (Below.mono hb hB.size)
 have hz_w2 : w1.heap.size ≤ w2.heap.size := Below.size hb
 replace hr_s := Row2.below hr_s hb (by omega)
 clear hb
 go_wp2_with fail
 refine (H3.out _ hB).mono ?_
 rintro e w3 ⟨rfl, hb⟩
 replace hB := hB.trans (Below.mono hb hB.size)
 have hz_w3 : w2.heap.size ≤ w3.heap.size := Below.size hb
 replace hr_s := Row2.below hr_s hb (by omega)
 clear hb
 go_wp2_with fail
 refine bodyPost_ret (v := .tuple #[.slice A1 l.length c1, .bool false]) ?_ rfl ?_
 ·simp [results, Tryz.results103, go_sem]
 ·exact ⟨A1, c1, rfl, (Row2.mono (lo := w.heap.size) (hi := w1.heap.size) (hi' := w1.heap.size) (by exact rowT) (by omega) (Nat.le_refl _)).1, by exact tacT⟩
set_option maxHeartbeats 12800000 in
theorem Inherit_no2 (A : Option Addr) (c : Nat) (l : List T3) (o : Int) (B : Option Addr) (d : Nat) (hs : List Int) (w : World) (h : RdT w w.heap.size A c l) (hi : RdI w w.heap.size B d hs) (hsz : l.length ≤ 1048576) (g1 : rightsOk l = true) (g2 : rightAt l o = -1) :
  Calls Tryz.prog 103 #[.slice A l.length c, .int .i64 o, .slice B hs.length d] w (SellRet (l, false) w) := by
 have hB := Below.refl w.heap.size w
 have hil := hi.le
 have H1 := Lib.hid (fun (W : World) (hb : Below w.heap.size w W) => copyRights_any A c l W (h.below hb) hsz)
 have H2 := Lib.hid (fun (W : World) (hb : Below w.heap.size w W) => rightOf_any A c l o W (h.below hb))
 have H3 := Lib.hid (fun (W : World) (hb : Below w.heap.size w W) => RightsOk_any A c l W (h.below hb))
 have H4 := Lib.hid (fun (W : World) (hb : Below w.heap.size w W) => rising_any B d hs W (hi.below hb))
 have H5 := Lib.hid (fun (W : World) (hb : Below w.heap.size w W) => hasInt_any B d hs o W (hi.below hb))
 rw [g1] at H3
 rw [g2] at H2
 go_enter Tryz.func103, Tryz.ntmps103
 go_wp2_with fail
 refine (H1.out _ hB).mono ?_
 rintro e w1 ⟨A1, c1, rfl, ho1, hb⟩
 have hr_s := Row2.born ho1
 clear ho1
 replace hB := hB.trans (Below.mono hb hB.size)
 have hz_w1 : w.heap.size ≤ w1.heap.size := Below.size hb
 clear hb
 go_wp2_with fail
 refine (H2.out _ hB).mono ?_
 rintro e w2 ⟨rfl, hb⟩
 replace hB := hB.trans (Below.mono hb hB.size)
 have hz_w2 : w1.heap.size ≤ w2.heap.size := Below.size hb
 replace hr_s := Row2.below hr_s hb (by omega)
 clear hb
 go_wp2_with fail
 refine (H3.out _ hB).mono ?_
 rintro e w3 ⟨rfl, hb⟩
 replace hB := hB.trans (Below.mono hb hB.size)
 have hz_w3 : w2.heap.size ≤ w3.heap.size := Below.size hb
 replace hr_s := Row2.below hr_s hb (by omega)
 clear hb
 go_wp2_with fail
 refine bodyPost_ret (v := .tuple #[.slice A1 l.length c1, .bool false]) ?_ rfl ?_
 ·simp [results, Tryz.results103, go_sem]
 ·exact ⟨A1, c1, rfl, (Row2.mono (lo := w.heap.size) (hi := w1.heap.size) (hi' := w1.heap.size) (by exact rowT) (by omega) (Nat.le_refl _)).1, by exact tacT⟩
set_option maxHeartbeats 12800000 in
theorem Inherit_no3 (A : Option Addr) (c : Nat) (l : List T3) (o : Int) (B : Option Addr) (d : Nat) (hs : List Int) (w : World) (h : RdT w w.heap.size A c l) (hi : RdI w w.heap.size B d hs) (hsz : l.length ≤ 1048576) (g1 : rightsOk l = true) (k : Nat) (g2 : rightAt l o = (k : Int)) (g3 : inB hs.length 1 6 = false) :
  Calls Tryz.prog 103 #[.slice A l.length c, .int .i64 o, .slice B hs.length d] w (SellRet (l, false) w) := by
 have hB := Below.refl w.heap.size w
 have hil := hi.le
 have H1 := Lib.hid (fun (W : World) (hb : Below w.heap.size w W) => copyRights_any A c l W (h.below hb) hsz)
 have H2 := Lib.hid (fun (W : World) (hb : Below w.heap.size w W) => rightOf_any A c l o W (h.below hb))
 have H3 := Lib.hid (fun (W : World) (hb : Below w.heap.size w W) => RightsOk_any A c l W (h.below hb))
 have H4 := Lib.hid (fun (W : World) (hb : Below w.heap.size w W) => rising_any B d hs W (hi.below hb))
 have H5 := Lib.hid (fun (W : World) (hb : Below w.heap.size w W) => hasInt_any B d hs o W (hi.below hb))
 rw [g1] at H3
 rw [g2] at H2
 have hk9 : ¬ (k : Int) < 0 := by omega
 have hk8 : decide ((k : Int) < 0) = false := by simp
 clear g2
 have HIN := Lib.hid g3
 go_enter Tryz.func103, Tryz.ntmps103
 go_wp2_with fail
 refine (H1.out _ hB).mono ?_
 rintro e w1 ⟨A1, c1, rfl, ho1, hb⟩
 have hr_s := Row2.born ho1
 clear ho1
 replace hB := hB.trans (Below.mono hb hB.size)
 have hz_w1 : w.heap.size ≤ w1.heap.size := Below.size hb
 clear hb
 go_wp2_with fail
 refine (H2.out _ hB).mono ?_
 rintro e w2 ⟨rfl, hb⟩
 replace hB := hB.trans (Below.mono hb hB.size)
 have hz_w2 : w1.heap.size ≤ w2.heap.size := Below.size hb
 replace hr_s := Row2.below hr_s hb (by omega)
 clear hb
 go_wp2_with fail
 refine (H3.out _ hB).mono ?_
 rintro e w3 ⟨rfl, hb⟩
 replace hB := hB.trans (Below.mono hb hB.size)
 have hz_w3 : w2.heap.size ≤ w3.heap.size := Below.size hb
 replace hr_s := Row2.below hr_s hb (by omega)
 clear hb
 go_wp2_with fail
 refine (within_any _ _ _ _).mono ?_
 rw [HIN.out]
 rintro e w' ⟨rfl, rfl⟩
 go_wp2_with fail
 refine bodyPost_ret (v := .tuple #[.slice A1 l.length c1, .bool false]) ?_ rfl ?_
 ·simp [results, Tryz.results103, go_sem]
 ·exact ⟨A1, c1, rfl, (Row2.mono (lo := w.heap.size) (hi := w1.heap.size) (hi' := w1.heap.size) (by exact rowT) (by omega) (Nat.le_refl _)).1, by exact tacT⟩
set_option maxHeartbeats 12800000 in
theorem Inherit_no4 (A : Option Addr) (c : Nat) (l : List T3) (o : Int) (B : Option Addr) (d : Nat) (hs : List Int) (w : World) (h : RdT w w.heap.size A c l) (hi : RdI w w.heap.size B d hs) (hsz : l.length ≤ 1048576) (g1 : rightsOk l = true) (k : Nat) (g2 : rightAt l o = (k : Int)) (g3 : inB hs.length 1 6 = true) (g4 : riseB 0 hs = false) :
  Calls Tryz.prog 103 #[.slice A l.length c, .int .i64 o, .slice B hs.length d] w (SellRet (l, false) w) := by
 have hB := Below.refl w.heap.size w
 have hil := hi.le
 have H1 := Lib.hid (fun (W : World) (hb : Below w.heap.size w W) => copyRights_any A c l W (h.below hb) hsz)
 have H2 := Lib.hid (fun (W : World) (hb : Below w.heap.size w W) => rightOf_any A c l o W (h.below hb))
 have H3 := Lib.hid (fun (W : World) (hb : Below w.heap.size w W) => RightsOk_any A c l W (h.below hb))
 have H4 := Lib.hid (fun (W : World) (hb : Below w.heap.size w W) => rising_any B d hs W (hi.below hb))
 have H5 := Lib.hid (fun (W : World) (hb : Below w.heap.size w W) => hasInt_any B d hs o W (hi.below hb))
 rw [g1] at H3
 rw [g2] at H2
 have hk9 : ¬ (k : Int) < 0 := by omega
 have hk8 : decide ((k : Int) < 0) = false := by simp
 clear g2
 have HIN := Lib.hid g3
 rw [g4] at H4
 go_enter Tryz.func103, Tryz.ntmps103
 go_wp2_with fail
 refine (H1.out _ hB).mono ?_
 rintro e w1 ⟨A1, c1, rfl, ho1, hb⟩
 have hr_s := Row2.born ho1
 clear ho1
 replace hB := hB.trans (Below.mono hb hB.size)
 have hz_w1 : w.heap.size ≤ w1.heap.size := Below.size hb
 clear hb
 go_wp2_with fail
 refine (H2.out _ hB).mono ?_
 rintro e w2 ⟨rfl, hb⟩
 replace hB := hB.trans (Below.mono hb hB.size)
 have hz_w2 : w1.heap.size ≤ w2.heap.size := Below.size hb
 replace hr_s := Row2.below hr_s hb (by omega)
 clear hb
 go_wp2_with fail
 refine (H3.out _ hB).mono ?_
 rintro e w3 ⟨rfl, hb⟩
 replace hB := hB.trans (Below.mono hb hB.size)
 have hz_w3 : w2.heap.size ≤ w3.heap.size := Below.size hb
 replace hr_s := Row2.below hr_s hb (by omega)
 clear hb
 go_wp2_with fail
 refine (within_any _ _ _ _).mono ?_
 rw [HIN.out]
 rintro e w' ⟨rfl, rfl⟩
 go_wp2_with fail
 refine (H4.out _ hB).mono ?_
 rintro e w' ⟨rfl, rfl⟩
 go_wp2_with fail
 refine bodyPost_ret (v := .tuple #[.slice A1 l.length c1, .bool false]) ?_ rfl ?_
 ·simp [results, Tryz.results103, go_sem]
 ·exact ⟨A1, c1, rfl, (Row2.mono (lo := w.heap.size) (hi := w1.heap.size) (hi' := w1.heap.size) (by exact rowT) (by omega) (Nat.le_refl _)).1, by exact tacT⟩
set_option maxHeartbeats 12800000 in
theorem Inherit_no5 (A : Option Addr) (c : Nat) (l : List T3) (o : Int) (B : Option Addr) (d : Nat) (hs : List Int) (w : World) (h : RdT w w.heap.size A c l) (hi : RdI w w.heap.size B d hs) (hsz : l.length ≤ 1048576) (g1 : rightsOk l = true) (k : Nat) (g2 : rightAt l o = (k : Int)) (g3 : inB hs.length 1 6 = true) (g4 : riseB 0 hs = true) (g5 : o ∈ hs) :
  Calls Tryz.prog 103 #[.slice A l.length c, .int .i64 o, .slice B hs.length d] w (SellRet (l, false) w) := by
 have hB := Below.refl w.heap.size w
 have hil := hi.le
 have H1 := Lib.hid (fun (W : World) (hb : Below w.heap.size w W) => copyRights_any A c l W (h.below hb) hsz)
 have H2 := Lib.hid (fun (W : World) (hb : Below w.heap.size w W) => rightOf_any A c l o W (h.below hb))
 have H3 := Lib.hid (fun (W : World) (hb : Below w.heap.size w W) => RightsOk_any A c l W (h.below hb))
 have H4 := Lib.hid (fun (W : World) (hb : Below w.heap.size w W) => rising_any B d hs W (hi.below hb))
 have H5 := Lib.hid (fun (W : World) (hb : Below w.heap.size w W) => hasInt_any B d hs o W (hi.below hb))
 rw [g1] at H3
 rw [g2] at H2
 have hk9 : ¬ (k : Int) < 0 := by omega
 have hk8 : decide ((k : Int) < 0) = false := by simp
 clear g2
 have HIN := Lib.hid g3
 rw [g4] at H4
 rw [decide_eq_true g5] at H5
 go_enter Tryz.func103, Tryz.ntmps103
 go_wp2_with fail
 refine (H1.out _ hB).mono ?_
 rintro e w1 ⟨A1, c1, rfl, ho1, hb⟩
 have hr_s := Row2.born ho1
 clear ho1
 replace hB := hB.trans (Below.mono hb hB.size)
 have hz_w1 : w.heap.size ≤ w1.heap.size := Below.size hb
 clear hb
 go_wp2_with fail
 refine (H2.out _ hB).mono ?_
 rintro e w2 ⟨rfl, hb⟩
 replace hB := hB.trans (Below.mono hb hB.size)
 have hz_w2 : w1.heap.size ≤ w2.heap.size := Below.size hb
 replace hr_s := Row2.below hr_s hb (by omega)
 clear hb
 go_wp2_with fail
 refine (H3.out _ hB).mono ?_
 rintro e w3 ⟨rfl, hb⟩
 replace hB := hB.trans (Below.mono hb hB.size)
 have hz_w3 : w2.heap.size ≤ w3.heap.size := Below.size hb
 replace hr_s := Row2.below hr_s hb (by omega)
 clear hb
 go_wp2_with fail
 refine (within_any _ _ _ _).mono ?_
 rw [HIN.out]
 rintro e w' ⟨rfl, rfl⟩
 go_wp2_with fail
 refine (H4.out _ hB).mono ?_
 rintro e w' ⟨rfl, rfl⟩
 go_wp2_with fail
 refine (H5.out _ hB).mono ?_
 rintro e w' ⟨rfl, rfl⟩
 go_wp2_with fail
 refine bodyPost_ret (v := .tuple #[.slice A1 l.length c1, .bool false]) ?_ rfl ?_
 ·simp [results, Tryz.results103, go_sem]
 ·exact ⟨A1, c1, rfl, (Row2.mono (lo := w.heap.size) (hi := w1.heap.size) (hi' := w1.heap.size) (by exact rowT) (by omega) (Nat.le_refl _)).1, by exact tacT⟩
set_option maxHeartbeats 12800000 in
theorem Inherit_yes (A : Option Addr) (c : Nat) (l : List T3) (o : Int) (B : Option Addr) (d : Nat) (hs : List Int) (w : World) (h : RdT w w.heap.size A c l) (hi : RdI w w.heap.size B d hs) (hsz : l.length ≤ 1048576) (g1 : rightsOk l = true) (k : Nat) (g2 : rightAt l o = (k : Int)) (g3 : inB hs.length 1 6 = true) (g4 : riseB 0 hs = true) (g5 : ¬ o ∈ hs) (x : T3) (gx : l[k]? = some x) (gf : x.x = o) (gs : shareOf l o = (x.y, x.z)) (s1 s2 : Int) (sok : Bool) (hq : splitF x.y x.z hs.length = (s1, s2, sok)) :
  Calls Tryz.prog 103 #[.slice A l.length c, .int .i64 o, .slice B hs.length d] w (SellRet (inhF l o hs) w) := by
 have hB := Below.refl w.heap.size w
 have hil := hi.le
 have H1 := Lib.hid (fun (W : World) (hb : Below w.heap.size w W) => copyRights_any A c l W (h.below hb) hsz)
 have H2 := Lib.hid (fun (W : World) (hb : Below w.heap.size w W) => rightOf_any A c l o W (h.below hb))
 have H3 := Lib.hid (fun (W : World) (hb : Below w.heap.size w W) => RightsOk_any A c l W (h.below hb))
 have H4 := Lib.hid (fun (W : World) (hb : Below w.heap.size w W) => rising_any B d hs W (hi.below hb))
 have H5 := Lib.hid (fun (W : World) (hb : Below w.heap.size w W) => hasInt_any B d hs o W (hi.below hb))
 have hG : inhG l o hs = true := inhG_iff.2 ⟨g1, hasO_iff.2 (by omega), g3, g4, g5⟩
 obtain ⟨hl12, hl1, hall⟩ := rights_facts g1
 obtain ⟨fx, y1, x1, x2⟩ := hall x (List.mem_of_getElem? gx)
 have hup := rights_up g1
 have hpl := (List.getElem?_eq_some_iff.1 gx).1
 obtain ⟨n1, n6⟩ := inB_iff.1 g3
 have HSP : Hid (∀ W, Calls Tryz.prog 134 #[.agg #[.int .i64 x.y, .int .i64 x.z], .int .i64 hs.length] W fun e w' => e = frRet (s1, s2, sok) ∧ Below W.heap.size W w') := fun W => by rw [← hq]; exact SplitEqually_any _ _ _ W
 obtain ⟨bb, oo, x', hA9, hbb, hx', e0, e1, e2⟩ := h.at_ hpl
 subst hA9
 rw [gx] at hx'
 obtain rfl : x = x' := Option.some.inj hx'
 clear hx'
 have hk0 : (0 : Int) ≤ (k : Int) := by omega
 have hk1 : (k : Int) < (l.length : Int) := by omega
 obtain ⟨R, hR⟩ : ∃ R, R = inhF l o hs := ⟨_, rfl⟩
 rw [← hR]
 have HBAD : Hid (sok = false → R = (l, false)) := fun h9 => by rw [hR]; exact inhF_none (by rw [inhTo_is gs hq, h9]; rfl)
 have HEND : Hid (sok = true → R = match addAll (cutS l o 0 1) hs s1 s2 with | some r => if rightsOk r then (r, true) else (l, false) | none => (l, false)) := fun h9 => by subst h9; rw [hR]; exact addAll_end hG gs hq
 have HS1 : Hid (sok = true → 1 ≤ s1) := fun h9 => by subst h9; exact (splitF_pos y1 hq).2
 obtain ⟨q0, hq0⟩ : ∃ q0, q0 = cutS l o 0 1 := ⟨_, rfl⟩
 have hq0u : upO 0 q0 := by rw [hq0]; exact upO_cut l o 0 1 0 hup
 have hq0l : q0.length ≤ 12 := by rw [hq0]; have := cutS_len l o 0 1; omega
 have hq0i : q0 = l.take k ++ l.drop (k + 1) := by rw [hq0, cutS_ix g2, if_pos rfl]
 have hq0n : q0.length = l.length - 1 := by rw [hq0i, List.length_append, List.length_take, List.length_drop]; omega
 rw [← hq0] at HEND
 have HQ0 := Lib.hid (And.intro hq0i hq0n)
 have hpos := riseB_pos hs 0 g4
 have HPOS := Lib.hid hpos
 have HDE : Hid (∀ (W : World) (A c base), W.ownsRow base 69 3 (.slice A l.length c) l.length (t3s l) → Calls Tryz.prog 130 #[.slice A l.length c, .int .i64 k, .int .i64 ((k : Int) + 1)] W fun e w' => e = .returned (.slice A (l.length - 1) c) ∧ w'.ownsRow base 69 3 (.slice A (l.length - 1) c) (l.length - 1) (t3s q0) ∧ W.grownBy w' (Value.slice A l.length c).ownBlock) := fun W A c base h => by rw [hq0i]; exact DeleteR_any A c base l k W h hpl
 have HAD : Hid (∀ (W : World) (A c base n q) (x : Int), List.length q = n → upO 0 q → n ≤ 18 → W.ownsRow base 69 3 (.slice A n c) n (t3s q) → base ≤ W.heap.size → Calls Tryz.prog 131 #[.slice A n c, .int .i64 x, .agg #[.int .i64 s1, .int .i64 s2]] W (AddRet base q x s1 s2 A c W)) := fun W A c base n q x hn hu hl h hb => by subst hn; exact addShare_any A c base q x s1 s2 W h hu (by omega) hb
 have H3q := Lib.hid (fun (W : World) (A : Option Addr) (c : Nat) (r : List T3) (h : RdT W W.heap.size A c r) => RightsOk_any A c r W h)
 rw [g1] at H3
 rw [g2] at H2
 have hk9 : ¬ (k : Int) < 0 := by omega
 have hk8 : decide ((k : Int) < 0) = false := by simp
 have HIN := Lib.hid g3
 rw [g4] at H4
 rw [decide_eq_false g5] at H5
 have HQU := Lib.hid hq0u
 have hil2 : (hs.length : Int) ≤ (d : Int) := by omega
 have hd63 : d ≤ 9223372036854775807 := hil.2
 have HRI := Lib.hid (fun (W : World) (hb : Below w.heap.size w W) => hi.below hb)
 clear hG hall hup hq hR hq0 hq0i hq0n hq0u hpos gs gx gf g1 g2 g3 g4 g5 hi
 go_enter Tryz.func103, Tryz.ntmps103
 go_wp2_with fail
 refine (H1.out _ hB).mono ?_
 rintro e w1 ⟨A1, c1, rfl, ho1, hb⟩
 have hr_s := Row2.born ho1
 clear ho1
 replace hB := hB.trans (Below.mono hb hB.size)
 have hz_w1 : w.heap.size ≤ w1.heap.size := Below.size hb
 clear hb
 go_wp2_with fail
 refine (H2.out _ hB).mono ?_
 rintro e w2 ⟨rfl, hb⟩
 replace hB := hB.trans (Below.mono hb hB.size)
 have hz_w2 : w1.heap.size ≤ w2.heap.size := Below.size hb
 replace hr_s := Row2.below hr_s hb (by omega)
 clear hb
 go_wp2_with fail
 refine (H3.out _ hB).mono ?_
 rintro e w3 ⟨rfl, hb⟩
 replace hB := hB.trans (Below.mono hb hB.size)
 have hz_w3 : w2.heap.size ≤ w3.heap.size := Below.size hb
 replace hr_s := Row2.below hr_s hb (by omega)
 clear hb
 have f1 : w3.cell? ⟨bb, oo + k * 3 + 1, none⟩ = some (.int .i64 x.y) := (hB.cell (p := ⟨bb, _, none⟩) hbb).trans e1
 have f2 : w3.cell? ⟨bb, oo + k * 3 + 2, none⟩ = some (.int .i64 x.z) := (hB.cell (p := ⟨bb, _, none⟩) hbb).trans e2
 have f2' : w3.cell? ⟨bb, oo + k * 3 + 1 + 1, none⟩ = some (.int .i64 x.z) := f2
 clear e0 e1 e2
 go_wp2_with fail
 refine (within_any _ _ _ _).mono ?_
 rw [HIN.out]
 rintro e w' ⟨rfl, rfl⟩
 go_wp2_with fail
 refine (H4.out _ hB).mono ?_
 rintro e w' ⟨rfl, rfl⟩
 go_wp2_with fail
 refine (H5.out _ hB).mono ?_
 rintro e w' ⟨rfl, rfl⟩
 go_wp2_with fail
 refine (HSP.out _).mono ?_
 rintro e w4 ⟨rfl, hb⟩
 unfold frRet
 replace hB := hB.trans (Below.mono hb hB.size)
 have hz_w4 : w3.heap.size ≤ w4.heap.size := Below.size hb
 replace hr_s := Row2.below hr_s hb (by omega)
 clear hb
 cases sok
 ·have HR9 := Lib.hid (HBAD.out rfl)
  go_wp2_with fail
  refine bodyPost_ret (v := .tuple #[.slice A1 l.length c1, .bool false]) ?_ rfl ?_
  ·simp [results, Tryz.results103, go_sem]
  ·rw [HR9.out]
   exact ⟨A1, c1, rfl, (Row2.mono (lo := w.heap.size) (hi := w1.heap.size) (hi' := w1.heap.size) (by exact rowT) (by omega) (Nat.le_refl _)).1, by exact tacT⟩
 ·have hs1 := HS1.out rfl
  have HEN := Lib.hid (HEND.out rfl)
  go_wp2_with fail
  first | refine name_world ?_ | refine name_wp ?_
  intro W5 hW
  replace hB : Below w.heap.size w W5 := by rw [hW]; exact tacT
  have hz_W5 : w4.heap.size ≤ W5.heap.size := by rw [hW]; exact sT
  replace kb_n : Blk W5 (w4.heap.size) 67 #[.int .i64 s1, .int .i64 s2] := by rw [hW]; exact blkT
  have hLW5_n := kb_n.lt
  replace hr_s : Row2 W5 (w.heap.size) (w1.heap.size) 69 3 A1 (l.length) c1 (t3s l) := by rw [hW]; exact rowT
  try clear kc_n kf_n
  clear hW
  refine (H1.out _ hB).mono ?_
  rintro e w6 ⟨A6, c6, rfl, ho6, hb⟩
  have hr_u := Row2.born ho6
  clear ho6
  replace hB := hB.trans (Below.mono hb hB.size)
  have hz_w6 : W5.heap.size ≤ w6.heap.size := Below.size hb
  replace kb_n := kb_n.mv hb; obtain ⟨kb_n, kc_n, kf_n, hl_n, hn_n⟩ := kb_n
  replace hr_s := Row2.below hr_s hb (by omega)
  clear hb
  go_wp2_with fail
  refine (HDE.out _ _ _ _ hr_u.1).mono ?_
  rintro e w7 ⟨rfl, ho7, hg7⟩
  have hcg := Row2.wrote hr_u hg7
  replace kb_n := Blk.chg kb_n hcg (.inl (by omega))
  replace hr_s := Row2.chg hr_s hcg (.inl (by omega))
  replace hB := Chg.below hB hcg (by omega) (by omega)
  have hz7 := hg7.size
  have HO7 := Lib.hid ho7
  have HNN := Lib.hid HQ0.out.2
  clear hcg hg7 ho7 hr_u kc_n kf_n hl_n hn_n f1 f2 f2'
  go_wp2_with fail
  go_loopw [11, 12, 66] (fun okv ov iv wr => ∃ (i : Nat) (A' : Option Addr) (c' n : Nat) (q : List T3), i ≤ hs.length ∧ okv = .bool true ∧ ov = .slice A' n c' ∧ iv = .int .i64 i ∧ Hid (q.length = n) ∧ Hid (addAll q0 hs s1 s2 = addAll q (hs.drop i) s1 s2) ∧ Hid (upO 0 q) ∧ n ≤ 12 + i ∧ Hid (wr.ownsRow W5.heap.size 69 3 (.slice A' n c') n (t3s q)) ∧ Blk wr w4.heap.size 67 #[.int .i64 s1, .int .i64 s2] ∧ Row2 wr w.heap.size w1.heap.size 69 3 A1 l.length c1 (t3s l) ∧ Below w.heap.size w wr ∧ W5.heap.size ≤ wr.heap.size) (fun _ _ iv _ => hs.length - (intOf iv).toNat)
  case atStart => exact ⟨0, _, _, _, q0, Nat.zero_le _, rfl, rfl, rfl, HNN.out, rfl, HQU.out, by omega, HO7.out, kb_n, hr_s, hB, by omega⟩
  case round =>
   clear HO7 HNN kb_n hr_s hB
   obtain ⟨i, A', c', n, q, hi9, rfl, rfl, rfl, HQN, HAA, HUP, hn9, HO, kb_n, hr_s, hB, hzr⟩ := hrel
   obtain rfl : q.length = n := HQN.out
   have hi0 : (0 : Int) ≤ (i : Int) := by omega
   by_cases hlt : i < hs.length
   ·obtain ⟨b2, o2, y, rfl, hb2, hy, e3⟩ := (HRI.out w (Below.refl _ _)).at_ hlt
    have f3 : wr.cell? ⟨b2, o2 + i, none⟩ = some (.int .i64 y) := (hB.cell (p := ⟨b2, _, none⟩) hb2).trans e3
    have hi1 : (i : Int) < (hs.length : Int) := by omega
    have hy1 := HPOS.out y (List.mem_of_getElem? hy)
    have HN := HAA.out
    rw [drop_cons hy] at HN
    have HNA := Lib.hid HN
    have kc_n := kb_n.cells
    have kf_n := kb_n.frozens
    have hl_n := kb_n.lt
    clear HN hy e3
    go_wp2_with fail
    refine (HAD.out _ _ _ _ _ _ y rfl HUP.out (by omega) HO.out hzr).mono ?_
    rintro e w9 ⟨A9, c9, r, ok, rfl, hIs, ho9, hg9⟩
    have hcg : Chg W5.heap.size wr.heap.size wr w9 := Row2.wrote ⟨HO.out, fun g hg => (HO.out.lt g hg).2⟩ hg9
    replace kb_n := Blk.chg kb_n hcg (.inl (by omega))
    replace hr_s := Row2.chg hr_s hcg (.inl (by omega))
    replace hB := Chg.below hB hcg (by omega) hB.size
    have hz9 := hg9.size
    have HO9 := Lib.hid ho9
    cases ok
    ·have HR9 : Hid (R = (l, false)) := by
      show _ = _
      rw [HEN.out, HNA.out, addAll_no _ (hIs.2 rfl).2.1]
     clear hIs hcg hg9 ho9
     go_wp2_with fail
     refine bodyPost_ret (v := .tuple #[.slice A1 l.length c1, .bool false]) ?_ rfl ?_
     ·simp [results, Tryz.results103, go_sem]
     ·rw [HR9.out]
      exact ⟨A1, c1, rfl, (Row2.mono (lo := w.heap.size) (hi := w1.heap.size) (hi' := w1.heap.size) (by exact rowT) (by omega) (Nat.le_refl _)).1, by exact tacT⟩
    ·have had : addSh q y s1 s2 = some r := by
      rcases hIs.1 rfl with ⟨h8, _⟩ | ⟨_, h8⟩
      ·omega
      ·exact h8
     have hru := Lib.hid (upO_add q y s1 s2 0 r HUP.out (by omega) had)
     have hrl : r.length ≤ q.length + 1 := addSh_len q y s1 s2 r had
     have HAR : Hid (addAll q0 hs s1 s2 = addAll r (hs.drop (i + 1)) s1 s2) := by show _ = _; rw [HNA.out, addAll_yes _ had]
     clear hIs hcg hg9 ho9 had
     go_wp2_with fail
     go_roundw
     case rel => exact ⟨i + 1, A9, c9, r.length, r, by omega, rfl, rfl, by go_num, rfl, HAR, hru, by omega, HO9.out, kb_n, hr_s, hB, by omega⟩
     case measure => simp [intOf]; omega
   ·have hi1 : ¬ (i : Int) < (hs.length : Int) := by omega
    have HRE : Hid (R = if rightsOk q then (q, true) else (l, false)) := by
     show _ = _
     rw [HEN.out, HAA.out, drop_end hlt, addAll_nil]
    go_wp2_with fail
    have hr_o : Row2 wr W5.heap.size wr.heap.size 69 3 A' q.length c' (t3s q) := ⟨HO.out, fun g hg => (HO.out.lt g hg).2⟩
    refine (H3q.out _ _ _ _ (Rd.of_own HO.out)).mono ?_
    rintro e wB ⟨rfl, hb⟩
    replace hB := hB.trans (Below.mono hb hB.size)
    have hz_wB : wr.heap.size ≤ wB.heap.size := Below.size hb
    replace hr_s := Row2.below hr_s hb (by omega)
    replace hr_o := Row2.below hr_o hb (by omega)
    clear hb
    cases hok : rightsOk q
    ·have HR9 : Hid (R = (l, false)) := by have h9 := HRE.out; rw [hok] at h9; exact h9
     clear hok
     go_wp2_with fail
     refine bodyPost_ret (v := .tuple #[.slice A1 l.length c1, .bool false]) ?_ rfl ?_
     ·simp [results, Tryz.results103, go_sem]
     ·rw [HR9.out]
      exact ⟨A1, c1, rfl, (Row2.mono (lo := w.heap.size) (hi := w1.heap.size) (hi' := w1.heap.size) (by exact rowT) (by omega) (Nat.le_refl _)).1, by exact tacT⟩
    ·have HR9 : Hid (R = (q, true)) := by have h9 := HRE.out; rw [hok] at h9; exact h9
     clear hok
     go_wp2_with fail
     refine bodyPost_ret (v := .tuple #[.slice A' q.length c', .bool true]) ?_ rfl ?_
     ·simp [results, Tryz.results103, go_sem]
     ·rw [HR9.out]
      exact ⟨A', c', rfl, (Row2.mono (lo := W5.heap.size) (hi := wr.heap.size) (hi' := wr.heap.size) (by exact rowT) (by omega) (Nat.le_refl _)).1, by exact tacT⟩
theorem Inherit_any (A : Option Addr) (c : Nat) (l : List T3) (o : Int) (B : Option Addr) (d : Nat) (hs : List Int) (w : World) (h : RdT w w.heap.size A c l) (hi : RdI w w.heap.size B d hs) (hsz : l.length ≤ 1048576) :
  Calls Tryz.prog 103 #[.slice A l.length c, .int .i64 o, .slice B hs.length d] w (SellRet (inhF l o hs) w) := by
 cases g1 : rightsOk l
 ·rw [inhG_no (by rw [g1]; simp)]; exact Inherit_no1 A c l o B d hs w h hi hsz g1
 rcases rightAt_pos (rights_up g1) o with ⟨g2, h2, _⟩ | ⟨g2, h2, x, gx, gf⟩
 ·rw [inhG_no (by rw [h2]; simp)]; exact Inherit_no2 A c l o B d hs w h hi hsz g1 g2
 cases g3 : inB hs.length 1 6
 ·rw [inhG_no (by rw [g3]; simp)]; exact Inherit_no3 A c l o B d hs w h hi hsz g1 _ g2 g3
 cases g4 : riseB 0 hs
 ·rw [inhG_no (by rw [g4]; simp)]; exact Inherit_no4 A c l o B d hs w h hi hsz g1 _ g2 g3 g4
 by_cases g5 : o ∈ hs
 ·rw [inhG_no (by simp [g5])]; exact Inherit_no5 A c l o B d hs w h hi hsz g1 _ g2 g3 g4 g5
 exact Inherit_yes A c l o B d hs w h hi hsz g1 _ g2 g3 g4 g5 x gx gf (shareOf_at (rights_up g1) gx gf).1 _ _ _ rfl
end
end Go.Proofs.YtpmmjhpmheooeaaGreatDoor
