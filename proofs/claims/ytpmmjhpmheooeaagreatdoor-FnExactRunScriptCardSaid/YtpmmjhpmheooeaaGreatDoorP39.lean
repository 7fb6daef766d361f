/- Texts of the proof, joined: PaPure, Script, Deed, FmtPure, RsPure, Split. -/
import Derived.Test.YtpmmjhpmheooeaaGreatDoorP37
import Derived.Test.YtpmmjhpmheooeaaGreatDoorP38
import Derived.Test.YtpmmjhpmheooeaaGreatDoorP6
import Derived.Lib.AppendStr
import Derived.Test.YtpmmjhpmheooeaaGreatDoorP35
import Derived.Test.YtpmmjhpmheooeaaGreatDoorP11
import Derived.Test.YtpmmjhpmheooeaaGreatDoorP12
import Derived.Test.YtpmmjhpmheooeaaGreatDoorP5
import Derived.Test.YtpmmjhpmheooeaaGreatDoorP29
import Derived.Test.YtpmmjhpmheooeaaGreatDoorP34
import Derived.Test.YtpmmjhpmheooeaaGreatDoorP36
namespace Go.Proofs.YtpmmjhpmheooeaaGreatDoor
set_option linter.unusedSimpArgs false
set_option linter.unusedVariables false
section
open Go.RowKit
set_option maxRecDepth 20000
def kindOf (f : List UInt8) : Int :=
 if f = [114, 97, 105, 110] then 1 else if f = [100, 114, 105, 110, 107] then 2 else if f = [108, 101, 97, 107] then 3 else if f = [115, 101, 108, 108] then 4 else if f = [104, 101, 105, 114, 115] then 5 else if f = [109, 97, 121] then 6 else 0
theorem kind_word {k : Int} (h : k = 1 ∨ k = 2 ∨ k = 3 ∨ k = 4 ∨ k = 5 ∨ k = 6) : kindOf (actWord k) = k ∧ actWord k ≠ [] ∧ ∀ b ∈ actWord k, b ≠ 32 := by
 rcases h with rfl | rfl | rfl | rfl | rfl | rfl <;> exact ⟨by decide, by decide, by decide⟩
/-- The parts of an act's text. -/
def actParts (k a b : Int) : List (List UInt8) := actWord k :: Lib.itoa a :: (if actTwo k then [Lib.itoa b] else [])
theorem act_join {k a b : Int} (h : actOk k a b = true) : actText k a b = Lib.join (actParts k a b) [32] := by
 unfold actParts
 cases h2 : actTwo k
 ·rw [actText_one h h2]
  rw [Lib.join_cons]
  simp [Lib.joinTail]
 ·rw [actText_two h h2]
  rw [Lib.join_cons]
  simp [Lib.joinTail]
theorem itoa_ne (n : Nat) : Lib.itoa (n : Int) ≠ [] := by
 intro h
 have := pu_empty
 have h1 := dec_val n n (Nat.le_refl _)
 rw [itoa_nat] at h
 by_cases hn : n < 10
 ·rw [dec_small hn] at h; cases h
 ·rw [dec_big hn] at h
  have := congrArg List.length h
  simp at this
theorem act_parts_ok {k a b : Int} (h : actOk k a b = true) : ∀ y ∈ actParts k a b, y ≠ [] ∧ ∀ c ∈ y, c ≠ 32 := by
 obtain ⟨hk, ha0, ha1, hb0, hb1⟩ := actOk_cases h
 have hi : ∀ n : Int, 0 ≤ n → (Lib.itoa n ≠ [] ∧ ∀ c ∈ Lib.itoa n, c ≠ 32) := fun n hn => by
  obtain ⟨m, rfl⟩ := Int.eq_ofNat_of_zero_le hn
  exact ⟨itoa_ne m, itoa_noc d32⟩
 intro y hy
 unfold actParts at hy
 rcases List.mem_cons.1 hy with rfl | hy
 ·exact (kind_word hk).2
 ·rcases List.mem_cons.1 hy with rfl | hy
  ·exact hi a ha0
  ·split at hy
   ·rw [List.mem_singleton] at hy
    subst hy
    exact hi b hb0
   ·cases hy
/-- A number as the reference reads it. -/
def psN (s : List UInt8) : Int := if decide (1 < s.length) && s.head? == some 45 then -(puVal (s.drop 1) : Int) else (puVal s : Int)
theorem psN_ok {s : List UInt8} (h : puOk s = true) : psN s = (puVal s : Int) := by
 unfold psN
 rw [if_neg]
 intro h9
 simp only [Bool.and_eq_true, beq_iff_eq] at h9
 unfold puOk at h
 simp only [Bool.and_eq_true] at h
 have hd := List.all_eq_true.1 h.1.1.2 45 (List.mem_of_mem_head? h9.2)
 exact absurd hd (by decide)
theorem psN_nil : psN [] = 0 := by
 unfold psN
 rw [if_neg (by simp), puVal_no pu_empty]; rfl
def paA (fs : List (List UInt8)) : Int := (puVal (fs.getD 1 []) : Int)
def paB (fs : List (List UInt8)) : Int := (puVal (fs.getD 2 []) : Int)
def paK (fs : List (List UInt8)) : Int := kindOf (fs.getD 0 [])
def paOkF (fs : List (List UInt8)) : Bool := decide (1 ≤ fs.length ∧ fs.length ≤ 3) && (fs.drop 1).all puOk && (actOk (paK fs) (paA fs) (paB fs) && decide (actText (paK fs) (paA fs) (paB fs) = Lib.join fs [32]))
def paI (t : List UInt8) : Bool := sfOk t && paOkF (sfX t)
/-- What reading a line yields. -/
def paX (t : List UInt8) : T3 := if paI t then ⟨paK (sfX t), paA (sfX t), paB (sfX t)⟩ else ⟨0, 0, 0⟩
theorem paX_no {t : List UInt8} (h : paI t = false) : paX t = ⟨0, 0, 0⟩ ∧ paI t = false := ⟨by unfold paX; rw [h]; rfl, h⟩
theorem paX_yes {t : List UInt8} (h : paI t = true) : paX t = ⟨paK (sfX t), paA (sfX t), paB (sfX t)⟩ ∧ paI t = true := ⟨by unfold paX; rw [h]; rfl, h⟩
def psHit (fs : List (List UInt8)) (k : Int) : Bool := actOk k (psN (fs.getD 1 [])) (psN (fs.getD 2 [])) && decide (actText k (psN (fs.getD 1 [])) (psN (fs.getD 2 [])) = Lib.join fs [32])
theorem pu_act {a : Int} (h0 : 0 ≤ a) (h1 : a ≤ 1000) : puOk (Lib.itoa a) = true ∧ (puVal (Lib.itoa a) : Int) = a := by
 obtain ⟨m, rfl⟩ := Int.eq_ofNat_of_zero_le h0
 have := pu_itoa (n := m) (by omega)
 exact ⟨this.1, by rw [this.2]⟩
theorem act_two_zero {k a b : Int} (h : actOk k a b = true) (h2 : actTwo k = false) : b = 0 := by
 rcases (actOk_cases h).1 with rfl | rfl | rfl | rfl | rfl | rfl
 ·unfold actOk at h; simp at h; exact h.2
 ·cases h2
 ·unfold actOk at h; simp at h; exact h.2
 ·cases h2
 ·cases h2
 ·unfold actOk at h; simp at h; exact h.2
/-- The fields of an act's text. -/
theorem pa_of {k a b : Int} (h : actOk k a b = true) : paOkF (actParts k a b) = true ∧ paK (actParts k a b) = k ∧ paA (actParts k a b) = a ∧ paB (actParts k a b) = b := by
 obtain ⟨hk, ha0, ha1, hb0, hb1⟩ := actOk_cases h
 have h1 := pu_act ha0 ha1
 have h2 := pu_act hb0 hb1
 have eK : paK (actParts k a b) = k := (kind_word hk).1
 have eA : paA (actParts k a b) = a := h1.2
 have eB : paB (actParts k a b) = b := by
  unfold paB actParts
  cases ht : actTwo k
  ·show (puVal [] : Int) = b
   rw [puVal_no pu_empty, act_two_zero h ht]; rfl
  ·exact h2.2
 refine ⟨?_, eK, eA, eB⟩
 unfold paOkF
 rw [eK, eA, eB, h, act_join h]
 unfold actParts
 cases actTwo k <;> simp [h1.1, h2.1]
theorem hit_fields {fs : List (List UInt8)} {k : Int} (hf : ∀ y ∈ fs, y ≠ [] ∧ ∀ c ∈ y, c ≠ 32) (h : psHit fs k = true) : ∃ a b, actOk k a b = true ∧ fs = actParts k a b := by
 unfold psHit at h
 simp only [Bool.and_eq_true, decide_eq_true_eq] at h
 refine ⟨_, _, h.1, ?_⟩
 have h1 := fl_join fs hf
 rw [← h.2, act_join h.1, fl_join _ (act_parts_ok h.1)] at h1
 exact h1.symm
theorem ps_num {fs : List (List UInt8)} (h : (fs.drop 1).all puOk = true) : psN (fs.getD 1 []) = paA fs ∧ psN (fs.getD 2 []) = paB fs := by
 have hg : ∀ i, 1 ≤ i → psN (fs.getD i []) = (puVal (fs.getD i []) : Int) := fun i hi => by
  by_cases hl : i < fs.length
  ·refine psN_ok (List.all_eq_true.1 h _ ?_)
   rw [List.getD_eq_getElem?_getD, List.getElem?_eq_getElem hl]
   show fs[i] ∈ fs.drop 1
   exact List.mem_of_getElem? (i := i - 1) (by rw [List.getElem?_drop, show 1 + (i - 1) = i by omega, List.getElem?_eq_getElem hl])
  ·rw [List.getD_eq_getElem?_getD, List.getElem?_eq_none (by omega)]
   show psN [] = (puVal [] : Int)
   rw [psN_nil, puVal_no pu_empty]; rfl
 exact ⟨hg 1 (Nat.le_refl _), hg 2 (by omega)⟩
/-- The reference's tries: the one kind alone fits. -/
theorem hit_yes {fs : List (List UInt8)} (h : paOkF fs = true) : psHit fs (paK fs) = true ∧ psN (fs.getD 1 []) = paA fs ∧ psN (fs.getD 2 []) = paB fs := by
 unfold paOkF at h
 simp only [Bool.and_eq_true] at h
 have hn := ps_num h.1.2
 refine ⟨?_, hn⟩
 unfold psHit
 rw [hn.1, hn.2, Bool.and_eq_true]
 exact h.2
theorem hit_only {fs : List (List UInt8)} {k : Int} (hf : ∀ y ∈ fs, y ≠ [] ∧ ∀ c ∈ y, c ≠ 32) (h : psHit fs k = true) : paOkF fs = true ∧ k = paK fs := by
 obtain ⟨a, b, hok, rfl⟩ := hit_fields hf h
 have := pa_of hok
 exact ⟨this.1, this.2.1.symm⟩
end
section
open Go.RowKit
set_option maxRecDepth 20000
theorem sv_mid' (a b : List UInt8) (c : UInt8) : Value.string (⟨a.toArray⟩ ++ ⟨#[c]⟩ ++ ⟨b.toArray⟩) = sv (a ++ c :: b) := by
 refine congrArg _ (ByteArray.ext ?_)
 simp
theorem sv_emp (a : List UInt8) : Value.string (⟨#[]⟩ ++ ⟨a.toArray⟩) = sv a := by
 refine congrArg _ (ByteArray.ext ?_)
 simp
set_option maxHeartbeats 3200000 in
theorem DeedText_any (A : Option Addr) (c : Nat) (l : List T3) (w : World) (h : RdT w w.heap.size A c l) (ht : Tab w) :
  Calls Tryz.prog 40 #[.slice A l.length c] w fun e w' => e = .returned (sv (deedText l)) ∧ Below w.heap.size w w' := by
 obtain ⟨hl, hm⟩ := h.le
 have hB := Below.refl w.heap.size w
 have HC := Lib.hid (RightsOk_any A c l w h)
 cases hok : rightsOk l
 ·rw [hok] at HC
  have HE := Lib.hid (deedText_no hok)
  clear hok
  go_enter Tryz.func40, Tryz.ntmps40
  go_wp2_with fail
  refine HC.out.mono ?_
  rintro e w1 ⟨rfl, hb⟩
  replace hB := hB.trans (Below.mono hb hB.size)
  have hz_w1 : w.heap.size ≤ w1.heap.size := Below.size hb
  clear hb
  go_wp2_with fail
  go_ret
  exact ⟨by rw [HE.out]; rfl, hB⟩
 have hlen := rightsOk_len hok
 have HE := Lib.hid (deedText_yes hok)
 rw [hok] at HC
 clear hok
 go_enter Tryz.func40, Tryz.ntmps40
 go_wp2_with fail
 refine HC.out.mono ?_
 rintro e w1 ⟨rfl, hb⟩
 replace hB := hB.trans (Below.mono hb hB.size)
 have hz_w1 : w.heap.size ≤ w1.heap.size := Below.size hb
 clear hb
 go_wp2_with fail
 go_loopw [3, 11] (fun v i wr => ∃ (k : Nat) (A' : Option Addr) (c' : Nat), k ≤ l.length ∧ i = .int .i64 k ∧ v = .slice A' (deedL (l.take k)).length c' ∧ OwnSt wr w.heap.size A' c' (deedL (l.take k)) ∧ Below w.heap.size w wr) (fun _ i _ => l.length - (intOf i).toNat)
 case atStart => exact ⟨0, none, 0, Nat.zero_le _, rfl, rfl, ownSt_nil _ _, hB⟩
 case round =>
  obtain ⟨k, A', c', hk, rfl, rfl, ho, hB⟩ := hrel
  have hbs := hB.size
  have hdl : (deedL (l.take k)).length ≤ 12 := by rw [deedL_len, List.length_take]; omega
  by_cases hlt : k < l.length
  ·obtain ⟨bb, o, x, rfl, hbb, hx, e0, e1, e2⟩ := h.at_ hlt
   have f0 : wr.cell? ⟨bb, o + k * 3, none⟩ = some (.int .i64 x.x) := (hB.cell (p := ⟨bb, _, none⟩) hbb).trans e0
   have f1 : wr.cell? ⟨bb, o + k * 3 + 1, none⟩ = some (.int .i64 x.y) := (hB.cell (p := ⟨bb, _, none⟩) hbb).trans e1
   have f2 : wr.cell? ⟨bb, o + k * 3 + 2, none⟩ = some (.int .i64 x.z) := (hB.cell (p := ⟨bb, _, none⟩) hbb).trans e2
   clear e0 e1 e2
   have hlb : bb < wr.heap.size := by omega
   have hk0 : (0 : Int) ≤ (k : Int) := by omega
   have hk1 : (k : Int) < (l.length : Int) := by omega
   have HF := Lib.hid (fun W (h : Tab W) => RightText_any x.x x.y x.z W h)
   have HX := Lib.hid hx
   obtain ⟨tx, hte⟩ : ∃ tx, tx = rightText x.x x.y x.z := ⟨_, rfl⟩
   obtain ⟨ls, hls⟩ : ∃ ls, ls = deedL (l.take k) := ⟨_, rfl⟩
   rw [← hls] at ho hdl ⊢
   rw [← hte] at HF
   have HTE := Lib.hid hte
   have HLS := Lib.hid hls
   clear hx hte hls
   go_wp2_with fail
   have hr_q : Row2 wr w.heap.size wr.heap.size 9 1 A' ls.length c' (strs ls) := Row2.born ho
   clear ho
   first | refine name_world ?_ | refine name_wp ?_
   intro W1 hW
   replace hB : Below w.heap.size w W1 := by rw [hW]; exact tacT
   have hz_W1 : wr.heap.size ≤ W1.heap.size := by rw [hW]; exact sT
   replace kb_r : Blk W1 (wr.heap.size) 69 #[.int .i64 x.x, .int .i64 x.y, .int .i64 x.z] := by rw [hW]; exact blkT
   have hLW1_r := kb_r.lt
   replace hr_q : Row2 W1 (w.heap.size) (wr.heap.size) 9 1 A' (ls.length) c' (strs ls) := by rw [hW]; exact rowT
   try clear kc_r kf_r
   clear hW
   refine (HF.out _ (ht.below hB)).mono ?_
   rintro e w2 ⟨rfl, hb⟩
   replace hB := hB.trans (Below.mono hb hB.size)
   have hz_w2 : W1.heap.size ≤ w2.heap.size := Below.size hb
   replace kb_r := kb_r.mv hb; obtain ⟨kb_r, kc_r, kf_r, hl_r, hn_r⟩ := kb_r
   replace hr_q := Row2.below hr_q hb (by omega)
   clear hb
   have hbs := hB.size
   have ho1 : OwnSt (w2.alloc (.cells #[sv tx] 9)) w.heap.size A' c' ls := World.ownsRow.alloc hr_q.1 _
   go_wp2_with (at_builtin; refine wpList_appSt rfl _ _ rfl w.heap.size A' c' ls rfl ho1 w2.heap.size tx rfl (cell_new1 _ _ _) (by omega) (by exact oT) ?_)
   intro A3 c3 w3 ho3 hg3
   have hB3 := below_grown_own (hB.alloc hbs (.cells #[sv tx] 9)) ho1 hg3 (Nat.le_refl _) (by exact oT)
   have hsn := deedL_snoc HX.out
   rw [← HTE.out, ← HLS.out] at hsn
   rw [← hsn] at ho3
   have HSN := Lib.hid hsn
   have H3 := Lib.hid (And.intro ho3 hB3)
   clear ho3 hB3 hg3 ho1 hsn hr_q kb_r kc_r kf_r hl_r hn_r
   go_wp2_with fail
   go_roundw
   case rel => exact ⟨k + 1, A3, c3, by omega, by go_num, by rw [HSN.out, List.length_append]; rfl, H3.out⟩
   case measure => simp [intOf]; omega
  ·have hk1 : ¬ (k : Int) < (l.length : Int) := by omega
   obtain rfl : k = l.length := by omega
   rw [List.take_length] at ho hdl ⊢
   obtain ⟨b, o, rfl, hb0, hcl⟩ := (OwnSt.rd ho).at_ (k := 0) (by rw [deedL_len]; omega)
   have hjl := deedJ_len l
   have hcap : (deedL l).length ≤ c' := (OwnSt.rd ho).2.1
   have HJ : Hid (Calls Tryz.prog 55 #[.slice (some ⟨b, o, none⟩) (deedL l).length c', .string ⟨#[32]⟩] wr fun e w' => e = .returned (sv (Lib.join (deedL l) [32])) ∧ Below wr.heap.size wr w') := by
    have := Tryz.strings_Join b o c' ((deedL l).map fun x => (⟨x.toArray⟩ : ByteArray)) ⟨#[32]⟩ wr (fun j x hx => by
     rw [List.getElem?_map] at hx
     obtain ⟨y, hy, rfl⟩ := Option.map_eq_some_iff.1 hx
     exact hcl j y hy) hb0 (by rw [List.length_map]; omega) (by rw [List.length_map]; exact hcap) (by simp only [List.map_map, Function.comp_def, List.map_id']; omega)
    refine Lib.hid ?_
    simpa [List.map_map, Function.comp_def] using this
   clear hcl ho
   go_wp2_with fail
   refine HJ.out.mono ?_
   rintro e w2 ⟨rfl, hb⟩
   replace hB := hB.trans (Below.mono hb hB.size)
   have hz_w2 : wr.heap.size ≤ w2.heap.size := Below.size hb
   clear hb
   go_wp2_with fail
   go_ret
   exact ⟨by rw [HE.out]; rfl, hB⟩
set_option maxHeartbeats 3200000 in
theorem DeedTextS_any (A : Option Addr) (c : Nat) (l : List T3) (w : World) (h : RdT w w.heap.size A c l) (ht : Tab w) :
  Calls Tryz.prog 51 #[.slice A l.length c] w fun e w' => e = .returned (sv (deedText l)) ∧ Below w.heap.size w w' := by
 obtain ⟨hl, hm⟩ := h.le
 have hB := Below.refl w.heap.size w
 obtain ⟨ok, hok⟩ : ∃ ok, ok = rightsOk l := ⟨_, rfl⟩
 have HC : Hid (∀ W, RdT W W.heap.size A c l → Calls Tryz.prog 79 #[.slice A l.length c] W fun e w' => e = .returned (.bool ok) ∧ Below W.heap.size W w') := fun W hW => by rw [hok]; exact RightsOkS_any A c l W hW
 have HK := Lib.hid hok
 have hl12 : Hid (ok = true → l.length ≤ 12) := fun h1 => (rightsOk_len (hok.symm.trans h1)).2
 clear hok
 go_enter Tryz.func51, Tryz.ntmps51
 go_wp2_with fail
 go_loopw [3, 4] (fun v i wr => ∃ (k : Nat), k ≤ l.length ∧ i = .int .i64 k ∧ v = sv (Lib.join (deedL (l.take k)) [32]) ∧ (0 < k → ok = true) ∧ Below w.heap.size w wr) (fun _ i _ => l.length - (intOf i).toNat)
 case atStart => exact ⟨0, Nat.zero_le _, rfl, rfl, by omega, hB⟩
 case round =>
  obtain ⟨k, hk, rfl, rfl, hok, hB⟩ := hrel
  have hbs := hB.size
  by_cases hlt : k < l.length
  ·obtain ⟨bb, o, x, rfl, hbb, hx, e0, e1, e2⟩ := h.at_ hlt
   have hlb : bb < wr.heap.size := by omega
   have hk0 : (0 : Int) ≤ (k : Int) := by omega
   have hk1 : (k : Int) < (l.length : Int) := by omega
   have hk2 : decide ((k : Int) < (l.length : Int)) = true := by simpa using hk1
   have HH := Lib.hid (h.below hB)
   go_wp2_with fail
   refine (HC.out _ HH.out).mono ?_
   rintro e w2 ⟨rfl, hb⟩
   replace hB := hB.trans (Below.mono hb hB.size)
   have hz_w2 : wr.heap.size ≤ w2.heap.size := Below.size hb
   clear hb
   cases ok
   ·have hk00 : k = 0 := by
     rcases Nat.eq_zero_or_pos k with h0 | h0
     ·exact h0
     ·cases hok h0
    subst hk00
    have HE := Lib.hid (deedText_no HK.out.symm)
    go_wp2_with fail
    go_ret
    exact ⟨by rw [HE.out]; rfl, hB⟩
   have hl12' := hl12.out rfl
   have f0 : w2.cell? ⟨bb, o + k * 3, none⟩ = some (.int .i64 x.x) := (hB.cell (p := ⟨bb, _, none⟩) hbb).trans e0
   have f1 : w2.cell? ⟨bb, o + k * 3 + 1, none⟩ = some (.int .i64 x.y) := (hB.cell (p := ⟨bb, _, none⟩) hbb).trans e1
   have f2 : w2.cell? ⟨bb, o + k * 3 + 2, none⟩ = some (.int .i64 x.z) := (hB.cell (p := ⟨bb, _, none⟩) hbb).trans e2
   clear e0 e1 e2
   have hlb2 : bb < w2.heap.size := by omega
   have HF := Lib.hid (fun W (h : Tab W) => RightTextS_any x.x x.y x.z W h)
   have HX := Lib.hid hx
   have htl := rightText_len x.x x.y x.z
   obtain ⟨tx, hte⟩ : ∃ tx, tx = rightText x.x x.y x.z := ⟨_, rfl⟩
   rw [← hte] at HF htl
   have HTE := Lib.hid hte
   clear hx hte
   have hjl : (Lib.join (deedL (l.take k)) [32]).length ≤ 12 * 80 := by
    have h1 := deedJ_len (l.take k)
    have h2 : (l.take k).length ≤ 12 := by rw [List.length_take]; omega
    omega
   cases k with
   |zero =>
    have hz := deedJ_zero HX.out
    rw [← HTE.out] at hz
    have HZ := Lib.hid hz
    clear hz
    have e00 : Lib.join (deedL (l.take 0)) [32] = [] := rfl
    rw [e00] at hjl ⊢
    clear e00
    have f0' : w2.cell? ⟨bb, o, none⟩ = some (.int .i64 x.x) := by simpa using f0
    have f1' : w2.cell? ⟨bb, o + 1, none⟩ = some (.int .i64 x.y) := by simpa using f1
    have f2' : w2.cell? ⟨bb, o + 2, none⟩ = some (.int .i64 x.z) := by simpa using f2
    clear f0 f1 f2
    have c3 : ¬ 9223372036854775807 < tx.length := by omega
    go_wp2_with fail
    refine (HF.out _ (ht.below hB)).mono ?_
    rintro e w3 ⟨rfl, hb⟩
    replace hB := hB.trans (Below.mono hb hB.size)
    have hz_w3 : w2.heap.size ≤ w3.heap.size := Below.size hb
    clear hb
    go_wp2_with fail
    go_roundw
    case rel => exact ⟨0 + 1, by omega, by go_num, by rw [HZ.out]; exact sv_emp tx, by simp, hB⟩
    case measure => simp [intOf]; omega
   |succ q =>
    have hz := deedJ_snoc HX.out
    rw [← HTE.out] at hz
    have HZ := Lib.hid hz
    clear hz
    obtain ⟨ta, hta⟩ : ∃ ta, ta = Lib.join (deedL (l.take (q + 1))) [32] := ⟨_, rfl⟩
    rw [← hta] at HZ hjl ⊢
    clear hta
    have c1 : ¬ 9223372036854775807 < ta.length + 1 := by omega
    have c2 : ¬ 9223372036854775807 < ta.length + 1 + tx.length := by omega
    have c3 : (0 : Int) < ((q + 1 : Nat) : Int) := by omega
    go_wp2_with fail
    refine (HF.out _ (ht.below hB)).mono ?_
    rintro e w3 ⟨rfl, hb⟩
    replace hB := hB.trans (Below.mono hb hB.size)
    have hz_w3 : w2.heap.size ≤ w3.heap.size := Below.size hb
    clear hb
    go_wp2_with fail
    go_roundw
    case rel => exact ⟨q + 1 + 1, by omega, by go_num, by rw [HZ.out]; exact sv_mid' _ _ _, by simp, hB⟩
    case measure => simp [intOf]; omega
  ·have hk1 : ¬ (k : Int) < (l.length : Int) := by omega
   have hk2 : decide ((k : Int) < (l.length : Int)) = false := by simpa using hk1
   obtain rfl : k = l.length := by omega
   rw [List.take_length]
   have HE : Hid (deedText l = Lib.join (deedL l) [32]) := by
    show _ = _
    cases hl0 : l with
    |nil => rfl
    |cons y ys =>
     rw [← hl0]
     exact deedText_yes (HK.out.symm.trans (hok (by rw [hl0]; simp)))
   go_wp2_with fail
   go_ret
   exact ⟨by rw [HE.out]; try rfl, hB⟩
end
section
open Go.RowKit
set_option maxRecDepth 20000
/-- "level a rained b drunk c lost d" -/
def fvHead (b : Bk) : List UInt8 := [108, 101, 118, 101, 108, 32] ++ Lib.itoa b.level ++ [32, 114, 97, 105, 110, 101, 100, 32] ++ Lib.itoa b.rained ++ [32, 100, 114, 117, 110, 107, 32] ++ Lib.itoa b.drunk ++ [32, 108, 111, 115, 116, 32] ++ Lib.itoa b.lost
def fvLine (v : Vg) (o : Int) : List UInt8 := Lib.itoa o ++ [32] ++ Lib.itoa (mayDrink v o)
def fvLines (v : Vg) (l : List T3) : List (List UInt8) := l.map fun e => fvLine v e.x
/-- The lines of a village's summary. -/
def fmtV (v : Vg) : List (List UInt8) := if villageOk v then [fvHead v.book, deedText v.rights] ++ fvLines v v.rights else []
theorem fmtV_no {v : Vg} (h : villageOk v = false) : fmtV v = [] := by unfold fmtV; rw [h]; rfl
theorem fmtV_yes {v : Vg} (h : villageOk v = true) : fmtV v = [fvHead v.book, deedText v.rights] ++ fvLines v v.rights := by unfold fmtV; rw [h]; rfl
theorem fvLines_len (v : Vg) (l : List T3) : (fvLines v l).length = l.length := by unfold fvLines; rw [List.length_map]
theorem fvLines_snoc {v : Vg} {l : List T3} {k : Nat} {e : T3} (h : l[k]? = some e) : fvLines v (l.take (k + 1)) = fvLines v (l.take k) ++ [fvLine v e.x] := by
 rw [take_snoc' h]; simp [fvLines]
theorem may_small (v : Vg) (o : Int) : -1 ≤ mayDrink v o ∧ mayDrink v o ≤ 1000000000000 := by
 have h1 := partOf_bd (shareOf v.rights o).1 (shareOf v.rights o).2 (min 1000000 (v.book.start + v.book.rained))
 have h2 := drunkBy_bd v.book o
 unfold mayDrink
 split
 ·split <;> omega
 ·omega
theorem deed_len9 {l : List T3} : (deedText l).length ≤ 1000 := by
 cases h : rightsOk l
 ·rw [deedText_no h]; simp
 ·rw [deedText_yes h]
  have h1 := deedJ_len l
  have h2 := rightsOk_len h
  omega
theorem fv_itoa {n : Int} (h : -1000000000 ≤ n ∧ n ≤ 1000000000000) : (Lib.itoa n).length ≤ 20 := itoa_len (by omega) (by omega)
theorem vg_both {v : Vg} (h : villageOk v = true) : bookOk v.book = true ∧ rightsOk v.rights = true := by
 unfold villageOk at h
 simpa using h
end
section
open Go.RowKit
set_option maxRecDepth 20000
def blank (x : List UInt8) : Bool := sfOk x && decide ((sfX x).length = 0)
/-- The lines read one by one, at most forty acts. -/
def rsGo : List (List UInt8) → List T3 → Option (List T3)
 | [], a => some a
 |x :: ls, a => if blank x then rsGo ls a else if paI x && decide (a.length ≠ 40) then rsGo ls (a ++ [paX x]) else none
/-- The same without the bound. -/
def rsAl : List (List UInt8) → List T3 → Option (List T3)
 | [], a => some a
 |x :: ls, a => if blank x then rsAl ls a else if paI x then rsAl ls (a ++ [paX x]) else none
theorem rsGo_skip {x : List UInt8} (h : blank x = true) (ls : List (List UInt8)) (a : List T3) : rsGo (x :: ls) a = rsGo ls a := by rw [rsGo, if_pos h]
theorem rsGo_take {x : List UInt8} (h : blank x = false) (h1 : paI x = true) {a : List T3} (h2 : a.length ≠ 40) (ls : List (List UInt8)) : rsGo (x :: ls) a = rsGo ls (a ++ [paX x]) := by
 rw [rsGo, h, if_neg (by simp), h1, decide_eq_true h2]; rfl
theorem rsGo_bad {x : List UInt8} (h : blank x = false) (h1 : paI x = false) (ls : List (List UInt8)) (a : List T3) : rsGo (x :: ls) a = none := by
 rw [rsGo, h, if_neg (by simp), h1]; rfl
theorem rsGo_full {x : List UInt8} (h : blank x = false) {a : List T3} (h2 : a.length = 40) (ls : List (List UInt8)) : rsGo (x :: ls) a = none := by
 rw [rsGo, h, if_neg (by simp), decide_eq_false (show ¬ a.length ≠ 40 by omega), Bool.and_false]; rfl
theorem rsAl_skip {x : List UInt8} (h : blank x = true) (ls : List (List UInt8)) (a : List T3) : rsAl (x :: ls) a = rsAl ls a := by rw [rsAl, if_pos h]
theorem rsAl_take {x : List UInt8} (h : blank x = false) (h1 : paI x = true) (ls : List (List UInt8)) (a : List T3) : rsAl (x :: ls) a = rsAl ls (a ++ [paX x]) := by
 rw [rsAl, h, if_neg (by simp), h1]; rfl
theorem rsAl_bad {x : List UInt8} (h : blank x = false) (h1 : paI x = false) (ls : List (List UInt8)) (a : List T3) : rsAl (x :: ls) a = none := by
 rw [rsAl, h, if_neg (by simp), h1]; rfl
theorem rsAl_grow : ∀ (ls : List (List UInt8)) (a r : List T3), rsAl ls a = some r → a.length ≤ r.length
 | [], a, r, h => by
  have := Option.some.inj h
  rw [this]; exact Nat.le_refl _
 |x :: ls, a, r, h => by
  cases hb : blank x
  ·cases hp : paI x
   ·rw [rsAl_bad hb hp] at h; cases h
   ·rw [rsAl_take hb hp] at h
    have := rsAl_grow ls _ r h
    rw [List.length_append] at this
    omega
  ·rw [rsAl_skip hb] at h
   exact rsAl_grow ls a r h
theorem rs_over {ls : List (List UInt8)} {a r : List T3} (h : rsAl ls a = some r) (h40 : 40 < r.length) (ha : a.length ≤ 40) : rsGo ls a = none := by
 induction ls generalizing a with
 |nil =>
  have := Option.some.inj h
  subst this
  omega
 |cons x ls ih =>
  cases hb : blank x
  ·cases hp : paI x
   ·rw [rsAl_bad hb hp] at h; cases h
   ·rw [rsAl_take hb hp] at h
    by_cases hf : a.length = 40
    ·exact rsGo_full hb hf ls
    ·rw [rsGo_take hb hp hf]
     exact ih h (by rw [List.length_append, List.length_singleton]; omega)
  ·rw [rsAl_skip hb] at h
   rw [rsGo_skip hb]
   exact ih h ha
theorem rs_none {ls : List (List UInt8)} {a : List T3} (h : rsAl ls a = none) : rsGo ls a = none := by
 induction ls generalizing a with
 |nil => cases h
 |cons x ls ih =>
  cases hb : blank x
  ·cases hp : paI x
   ·exact rsGo_bad hb hp ls a
   ·rw [rsAl_take hb hp] at h
    by_cases hf : a.length = 40
    ·exact rsGo_full hb hf ls
    ·rw [rsGo_take hb hp hf]
     exact ih h
  ·rw [rsAl_skip hb] at h
   rw [rsGo_skip hb]
   exact ih h
theorem rs_some {ls : List (List UInt8)} {a r : List T3} (h : rsAl ls a = some r) (h40 : r.length ≤ 40) : rsGo ls a = some r := by
 induction ls generalizing a with
 |nil => exact h
 |cons x ls ih =>
  cases hb : blank x
  ·cases hp : paI x
   ·rw [rsAl_bad hb hp] at h; cases h
   ·rw [rsAl_take hb hp] at h
    have := rsAl_grow ls _ r h
    rw [List.length_append, List.length_singleton] at this
    rw [rsGo_take hb hp (by omega)]
    exact ih h
  ·rw [rsAl_skip hb] at h
   rw [rsGo_skip hb]
   exact ih h
def rcL (t : List UInt8) : List (List UInt8) := spl 10 [] t
theorem spl_count9 (c : UInt8) : ∀ (s cur : List UInt8), (spl c cur s).length ≤ s.length + 1
 | [], _ => by rw [spl_nil]; simp
 |b :: s, cur => by
  rw [spl]
  split
  ·have := spl_count9 c s []
   simp; omega
  ·have := spl_count9 c s (cur ++ [b])
   simp; omega
theorem rcL_len (t : List UInt8) : (rcL t).length ≤ t.length + 1 := spl_count9 10 t []
/-- The acts of a script. -/
def rcA (t : List UInt8) : Option (List T3) := if t.length ≤ 20000 then rsGo (rcL t) [] else none
def sv0 : Vg := newV 200 100 1
theorem sv0_ok : villageOk sv0 = true := by decide +kernel
def outOf (acts : List T3) : List (List UInt8) := (runActs sv0 acts).2.map Lib.itoa ++ fmtV (runActs sv0 acts).1
def rcI (t : List UInt8) : Bool := (rcA t).isSome
/-- What running a script yields. -/
def rcX (t : List UInt8) : List (List UInt8) := match rcA t with
 |none => []
 |some acts => outOf acts
theorem rs_long {t : List UInt8} (h : 20000 < t.length) : rcX t = [] ∧ rcI t = false := by
 have : rcA t = none := by unfold rcA; rw [if_neg (by omega)]
 exact ⟨by unfold rcX; rw [this], by unfold rcI; rw [this]; rfl⟩
theorem rs_no {t : List UInt8} (hl : t.length ≤ 20000) (h : rsGo (rcL t) [] = none) : rcX t = [] ∧ rcI t = false := by
 have : rcA t = none := by unfold rcA; rw [if_pos hl, h]
 exact ⟨by unfold rcX; rw [this], by unfold rcI; rw [this]; rfl⟩
theorem rs_yes {t : List UInt8} {acts : List T3} (hl : t.length ≤ 20000) (h : rsGo (rcL t) [] = some acts) : rcX t = outOf acts ∧ rcI t = true := by
 have : rcA t = some acts := by unfold rcA; rw [if_pos hl, h]
 exact ⟨by unfold rcX; rw [this], by unfold rcI; rw [this]; rfl⟩
theorem fmtV_len9 (v : Vg) : (fmtV v).length ≤ 14 := by
 cases h : villageOk v
 ·rw [fmtV_no h]; simp
 ·rw [fmtV_yes h, List.length_append, fvLines_len]
  have := (rights_facts (vg_both h).2).1
  simp; omega
theorem outOf_len (acts : List T3) : (outOf acts).length ≤ 54 := by
 unfold outOf
 rw [List.length_append, List.length_map]
 have h1 := (runActs_len sv0 acts).2.2
 have h2 := fmtV_len9 (runActs sv0 acts).1
 omega
theorem rcX_len (t : List UInt8) : (rcX t).length ≤ 54 := by
 unfold rcX
 split
 ·simp
 ·exact outOf_len _
theorem sv0_nums {acts : List T3} (h : acts.length ≤ 40) : (runActs sv0 acts).2.length = acts.length ∧ (∀ n ∈ (runActs sv0 acts).2, -1 ≤ n ∧ n ≤ 100000000000) ∧ villageOk (runActs sv0 acts).1 = true :=
 ⟨(run_keeps sv0_ok h).2, run_nums sv0_ok h, (run_keeps sv0_ok h).1⟩
/-! The text of acts, read back. -/
end
section
open Go.RowKit
set_option maxRecDepth 20000
theorem ext_b (t : List UInt8) (b k : Nat) : (⟨t.toArray⟩ : ByteArray).extract b k = ⟨((t.take k).drop b).toArray⟩ := by
 apply ByteArray.ext
 rw [ByteArray.data_extract]
 simp [List.drop_take]
end
end Go.Proofs.YtpmmjhpmheooeaaGreatDoor
