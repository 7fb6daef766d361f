/- Texts of the proof, joined: RightAt, SellPure. -/
import Derived.Test.YtpmmjhpmheooeaaGreatDoorP2
import Derived.Test.YtpmmjhpmheooeaaGreatDoorP4
namespace Go.Proofs.YtpmmjhpmheooeaaGreatDoor
set_option linter.unusedSimpArgs false
set_option linter.unusedVariables false
section
open Go.RowKit
set_option maxRecDepth 20000
def findGo : List T3 → Nat → Int → Int
 | [], _, _ => -1
 |t :: l, k, o => if t.x = o then (k : Int) else findGo l (k + 1) o
theorem findGo_cons (t : T3) (l : List T3) (k : Nat) (o : Int) : findGo (t :: l) k o = if t.x = o then (k : Int) else findGo l (k + 1) o := rfl
def rightAt (l : List T3) (o : Int) : Int := findGo l 0 o
def shareOf : List T3 → Int → Int × Int
 | [], _ => (0, 0)
 |t :: l, o => if t.x = o then (t.y, t.z) else shareOf l o
theorem shareOf_cons (t : T3) (l : List T3) (o : Int) : shareOf (t :: l) o = if t.x = o then (t.y, t.z) else shareOf l o := rfl
def partOf (t b amount : Int) : Int := if fracOk t b && inB amount 0 1000000 then amount * t / b else -1
theorem rightOf1_any (x y z o : Int) (g : Nat) (w : World) (hg : g < w.heap.size) (hc : w.cell? ⟨g, 0, none⟩ = some (.int .i64 o)) :
  Calls Tryz.prog 107 #[.agg #[.int .i64 x, .int .i64 y, .int .i64 z], .pointer (some ⟨g, 0, none⟩)] w fun e w' => e = .returned (.bool (x == o)) ∧ ∃ b : Obj, w' = w.alloc b := by
 have hn := Nat.ne_of_lt hg
 go_enter Tryz.func107, Tryz.ntmps107
 go_wp2
 go_ret
 exact ⟨rfl, _, rfl⟩
set_option maxHeartbeats 800000 in
theorem IndexRight_any (A : Option Addr) (c : Nat) (l : List T3) (o : Int) (g : Nat) (w : World) (h : RdT w w.heap.size A c l) (hg : g < w.heap.size) (hc : w.cell? ⟨g, 0, none⟩ = some (.int .i64 o)) :
  Calls Tryz.prog 106 #[.slice A l.length c, .func (.func 107) #[] #[.pointer (some ⟨g, 0, none⟩)]] w fun e w' => e = .returned (.int .i64 (rightAt l o)) ∧ Below w.heap.size w w' := by
 obtain ⟨hl, hm⟩ := h.le
 obtain ⟨R, hR⟩ : ∃ R, R = rightAt l o := ⟨_, rfl⟩
 rw [← hR]
 have HR : Hid (findGo (l.drop 0) 0 o = R) := hR.symm
 clear hR
 go_enter Tryz.func106, Tryz.ntmps106
 go_wp2_with fail
 go_loopw [8] (fun i wr => ∃ k : Nat, k ≤ l.length ∧ i = .int .i64 k ∧ Hid (findGo (l.drop k) k o = R) ∧ Below w.heap.size w wr) (fun i _ => l.length - (intOf i).toNat)
 case atStart => exact ⟨0, Nat.zero_le _, rfl, HR, Below.refl _ _⟩
 case round =>
  obtain ⟨k, hk, rfl, HR, hB⟩ := hrel
  have hbs := hB.size
  by_cases hlt : k < l.length
  ·obtain ⟨bb, oo, x, rfl, hbb, hx, e0, e1, e2⟩ := h.at_ hlt
   have f0 : wr.cell? ⟨bb, oo + k * 3, none⟩ = some (.int .i64 x.x) := (hB.cell (p := ⟨bb, _, none⟩) hbb).trans e0
   have f1 : wr.cell? ⟨bb, oo + k * 3 + 1, none⟩ = some (.int .i64 x.y) := (hB.cell (p := ⟨bb, _, none⟩) hbb).trans e1
   have f2 : wr.cell? ⟨bb, oo + k * 3 + 2, none⟩ = some (.int .i64 x.z) := (hB.cell (p := ⟨bb, _, none⟩) hbb).trans e2
   have hc' : wr.cell? ⟨g, 0, none⟩ = some (.int .i64 o) := (hB.cell (p := ⟨g, _, none⟩) hg).trans hc
   clear e0 e1 e2
   have hk0 : (0 : Int) ≤ (k : Int) := by omega
   have hk1 : (k : Int) < (l.length : Int) := by omega
   have HX := Lib.hid hx
   clear hx
   cases hq : (x.x == o)
   ·have hne : x.x ≠ o := by simpa using hq
    have HN : Hid (findGo (l.drop (k + 1)) (k + 1) o = R) := by show _ = _; rw [← HR.out, drop_cons HX.out, findGo_cons, if_neg hne]
    have HQ := Lib.hid hq
    clear hq hne
    go_wp2_with (go_at_call 107; refine (rightOf1_any _ _ _ o g _ (by omega) hc').mono ?_; rw [HQ.out]; rintro e w1 ⟨rfl, b1, rfl⟩)
    go_roundw
    case rel => exact ⟨k + 1, by omega, by go_num, HN, by exact tacT⟩
    case measure => simp [intOf]; omega
   ·have hne : x.x = o := by simpa using hq
    have HN : Hid (R = (k : Int)) := by show _ = _; rw [← HR.out, drop_cons HX.out, findGo_cons, if_pos hne]
    have HQ := Lib.hid hq
    clear hq hne
    go_wp2_with (go_at_call 107; refine (rightOf1_any _ _ _ o g _ (by omega) hc').mono ?_; rw [HQ.out]; rintro e w1 ⟨rfl, b1, rfl⟩)
    go_ret
    exact ⟨ret_int HN.out.symm, by exact tacT⟩
  ·have e1 := HR.out
   rw [drop_end hlt] at e1
   have HX : Hid (R = -1) := e1.symm
   clear e1
   go_wp2_with fail
   go_ret
   exact ⟨ret_int HX.out.symm, hB⟩
theorem rightOf_any (A : Option Addr) (c : Nat) (l : List T3) (o : Int) (w : World) (h : RdT w w.heap.size A c l) :
  Calls Tryz.prog 71 #[.slice A l.length c, .int .i64 o] w fun e w' => e = .returned (.int .i64 (rightAt l o)) ∧ Below w.heap.size w w' := by
 have H1 : Hid (∀ W : World, Below w.heap.size w W → ∀ g, g < W.heap.size → W.cell? ⟨g, 0, none⟩ = some (.int .i64 o) → Calls Tryz.prog 106 #[.slice A l.length c, .func (.func 107) #[] #[.pointer (some ⟨g, 0, none⟩)]] W fun e w' => e = .returned (.int .i64 (rightAt l o)) ∧ Below W.heap.size W w') := fun W hb g hg hc => IndexRight_any A c l o g W (h.below hb) hg hc
 have hB := Below.refl w.heap.size w
 go_enter Tryz.func71, Tryz.ntmps71
 go_wp2_with fail
 refine (H1.out _ (by exact tacT) _ (by simp) (by simp)).mono ?_
 rintro e w1 ⟨rfl, hb⟩
 go_wp2_with fail
 go_ret
 exact ⟨rfl, by exact tacT⟩
set_option maxHeartbeats 800000 in
theorem PartOf_any (t b m : Int) (w : World) :
  Calls Tryz.prog 72 #[.agg #[.int .i64 t, .int .i64 b], .int .i64 m] w fun e w' => e = .returned (.int .i64 (partOf t b m)) ∧ Below w.heap.size w w' := by
 have HF : Hid (∀ (W : World), Calls Tryz.prog 99 #[.agg #[.int .i64 t, .int .i64 b]] W fun e w' => e = .returned (.bool (fracOk t b)) ∧ Below W.heap.size W w') := fun W => FractionOk_any t b W
 have hB := Below.refl w.heap.size w
 cases h1 : fracOk t b
 ·have E : Hid (partOf t b m = -1) := by unfold partOf; rw [h1]; rfl
  have H1 := Lib.hid h1
  clear h1
  go_enter Tryz.func72, Tryz.ntmps72
  go_wp2_with fail
  refine (HF.out _).mono ?_
  rw [H1.out]
  rintro e w1 ⟨rfl, hb⟩
  go_wp2_with fail
  go_ret
  exact ⟨ret_int E.out.symm, by exact tacT⟩
 cases h2 : inB m 0 1000000
 ·have E : Hid (partOf t b m = -1) := by unfold partOf; rw [h1, h2]; rfl
  have H1 := Lib.hid h1
  have H2 := Lib.hid h2
  clear h1 h2
  go_enter Tryz.func72, Tryz.ntmps72
  go_wp2_with fail
  refine (HF.out _).mono ?_
  rw [H1.out]
  rintro e w1 ⟨rfl, hb⟩
  go_wp2_with fail
  refine (within_any _ _ _ _).mono ?_
  rw [H2.out]
  rintro e w2 ⟨rfl, rfl⟩
  go_wp2_with fail
  go_ret
  exact ⟨ret_int E.out.symm, by exact tacT⟩
 have E : Hid (partOf t b m = m * t / b) := by show _ = _; unfold partOf; rw [h1, h2]; rfl
 obtain ⟨f1, f2, f3, f4⟩ := fracOk_iff h1
 obtain ⟨m1, m2⟩ := inB_iff.1 h2
 have p1 : 0 ≤ m * t := Int.mul_nonneg m1 f1
 have p2 : m * t ≤ 10000000000 := by have := Int.mul_le_mul m2 f2 f1 (by omega); omega
 have H1 := Lib.hid h1
 have H2 := Lib.hid h2
 clear h1 h2
 go_enter Tryz.func72, Tryz.ntmps72
 go_wp2_with fail
 first | refine name_world ?_ | refine name_wp ?_
 intro W1 hW
 replace hB : Below w.heap.size w W1 := by rw [hW]; exact tacT
 have hz_W1 : w.heap.size ≤ W1.heap.size := by rw [hW]; exact sT
 replace kb_p : Blk W1 (w.heap.size) 67 #[.int .i64 t, .int .i64 b] := by rw [hW]; exact blkT
 have hLW1_p := kb_p.lt
 try clear kc_p kf_p
 clear hW
 refine (HF.out _).mono ?_
 rw [H1.out]
 rintro e w1 ⟨rfl, hb⟩
 replace hB := hB.trans (Below.mono hb hB.size)
 have hz_w1 : W1.heap.size ≤ w1.heap.size := Below.size hb
 replace kb_p := kb_p.mv hb; obtain ⟨kb_p, kc_p, kf_p, hl_p, hn_p⟩ := kb_p
 clear hb
 go_wp2_with fail
 refine (within_any _ _ _ _).mono ?_
 rw [H2.out]
 rintro e w2 ⟨rfl, rfl⟩
 go_wp2_with fail
 go_ret
 exact ⟨ret_int E.out.symm, by exact tacT⟩
set_option maxHeartbeats 800000 in
theorem PartOfS_any (t b m : Int) (w : World) :
  Calls Tryz.prog 87 #[.agg #[.int .i64 t, .int .i64 b], .int .i64 m] w fun e w' => e = .returned (.int .i64 (partOf t b m)) ∧ Below w.heap.size w w' := by
 have HF : Hid (∀ (W : World), Calls Tryz.prog 113 #[.agg #[.int .i64 t, .int .i64 b]] W fun e w' => e = .returned (.bool (fracOk t b)) ∧ Below W.heap.size W w') := fun W => FractionOkS_any t b W
 have hB := Below.refl w.heap.size w
 cases h1 : fracOk t b
 ·have E : Hid (partOf t b m = -1) := by unfold partOf; rw [h1]; rfl
  have H1 := Lib.hid h1
  clear h1
  go_enter Tryz.func87, Tryz.ntmps87
  go_wp2_with fail
  refine (HF.out _).mono ?_
  rw [H1.out]
  rintro e w1 ⟨rfl, hb⟩
  go_wp2_with fail
  go_ret
  exact ⟨ret_int E.out.symm, by exact tacT⟩
 cases h2 : inB m 0 1000000
 ·have E : Hid (partOf t b m = -1) := by unfold partOf; rw [h1, h2]; rfl
  have H1 := Lib.hid h1
  have H2 := Lib.hid h2
  clear h1 h2
  go_enter Tryz.func87, Tryz.ntmps87
  go_wp2_with fail
  refine (HF.out _).mono ?_
  rw [H1.out]
  rintro e w1 ⟨rfl, hb⟩
  go_wp2_with fail
  refine (l01In_any _ _ _ _).mono ?_
  rw [H2.out]
  rintro e w2 ⟨rfl, rfl⟩
  go_wp2_with fail
  go_ret
  exact ⟨ret_int E.out.symm, by exact tacT⟩
 have E : Hid (partOf t b m = m * t / b) := by show _ = _; unfold partOf; rw [h1, h2]; rfl
 obtain ⟨f1, f2, f3, f4⟩ := fracOk_iff h1
 obtain ⟨m1, m2⟩ := inB_iff.1 h2
 have p1 : 0 ≤ m * t := Int.mul_nonneg m1 f1
 have p2 : m * t ≤ 10000000000 := by have := Int.mul_le_mul m2 f2 f1 (by omega); omega
 have H1 := Lib.hid h1
 have H2 := Lib.hid h2
 clear h1 h2
 go_enter Tryz.func87, Tryz.ntmps87
 go_wp2_with fail
 first | refine name_world ?_ | refine name_wp ?_
 intro W1 hW
 replace hB : Below w.heap.size w W1 := by rw [hW]; exact tacT
 have hz_W1 : w.heap.size ≤ W1.heap.size := by rw [hW]; exact sT
 replace kb_p : Blk W1 (w.heap.size) 67 #[.int .i64 t, .int .i64 b] := by rw [hW]; exact blkT
 have hLW1_p := kb_p.lt
 try clear kc_p kf_p
 clear hW
 refine (HF.out _).mono ?_
 rw [H1.out]
 rintro e w1 ⟨rfl, hb⟩
 replace hB := hB.trans (Below.mono hb hB.size)
 have hz_w1 : W1.heap.size ≤ w1.heap.size := Below.size hb
 replace kb_p := kb_p.mv hb; obtain ⟨kb_p, kc_p, kf_p, hl_p, hn_p⟩ := kb_p
 clear hb
 go_wp2_with fail
 refine (l01In_any _ _ _ _).mono ?_
 rw [H2.out]
 rintro e w2 ⟨rfl, rfl⟩
 go_wp2_with fail
 go_ret
 exact ⟨ret_int E.out.symm, by exact tacT⟩
end
section
open Go.RowKit
def mulF (a b c d : Int) : Int × Int × Bool := if fracOk a b && fracOk c d then redF (a * c).toNat (b * d).toNat else (0, 0, false)
def lessF (a b c d : Int) : Int × Int × Bool := if fracOk a b && fracOk c d && !decide (a * d < c * b) then redF (a * d - c * b).toNat (b * d).toNat else (0, 0, false)
def splitF (t b : Int) (n : Nat) : Int × Int × Bool := if fracOk t b && inB n 1 20 then redF t.toNat (b * n).toNat else (0, 0, false)
theorem coprime_cross {p q p' q' : Nat} (h : Nat.Coprime p q) (h' : Nat.Coprime p' q') (hq : 0 < q) (hq' : 0 < q') (e : p * q' = p' * q) : p = p' ∧ q = q' := by
 have d1 : q ∣ q' := h.symm.dvd_of_dvd_mul_left (show q ∣ p * q' from ⟨p', by rw [e, Nat.mul_comm]⟩)
 have d2 : q' ∣ q := h'.symm.dvd_of_dvd_mul_left (show q' ∣ p' * q from ⟨p, by rw [← e, Nat.mul_comm]⟩)
 have hqq := Nat.dvd_antisymm d1 d2
 subst hqq
 exact ⟨Nat.eq_of_mul_eq_mul_right hq e, rfl⟩
theorem redF_cross {t b t' b' : Nat} (hb : 1 ≤ b) (hb' : 1 ≤ b') (e : t * b' = t' * b) : redF t b = redF t' b' := by
 have g1 : 0 < Nat.gcd t b := Nat.gcd_pos_of_pos_right _ (by omega)
 have g2 : 0 < Nat.gcd t' b' := Nat.gcd_pos_of_pos_right _ (by omega)
 have c1 := Nat.coprime_div_gcd_div_gcd g1
 have c2 := Nat.coprime_div_gcd_div_gcd g2
 obtain ⟨p, hp⟩ := Nat.gcd_dvd_left t b
 obtain ⟨q, hq⟩ := Nat.gcd_dvd_right t b
 obtain ⟨p', hp'⟩ := Nat.gcd_dvd_left t' b'
 obtain ⟨q', hq'⟩ := Nat.gcd_dvd_right t' b'
 have e1 : t / Nat.gcd t b = p := Nat.div_eq_of_eq_mul_right g1 hp
 have e2 : b / Nat.gcd t b = q := Nat.div_eq_of_eq_mul_right g1 hq
 have e3 : t' / Nat.gcd t' b' = p' := Nat.div_eq_of_eq_mul_right g2 hp'
 have e4 : b' / Nat.gcd t' b' = q' := Nat.div_eq_of_eq_mul_right g2 hq'
 rw [e1, e2] at c1
 rw [e3, e4] at c2
 have q0 : 0 < q := Nat.pos_of_ne_zero (fun h => by rw [h] at hq; omega)
 have q0' : 0 < q' := Nat.pos_of_ne_zero (fun h => by rw [h] at hq'; omega)
 have hx : p * q' = p' * q := by
  generalize Nat.gcd t b = g at *
  generalize Nat.gcd t' b' = g' at *
  rw [hp, hq, hp', hq'] at e
  have : (g * g') * (p * q') = (g * g') * (p' * q) := by
   calc (g * g') * (p * q') = g * p * (g' * q') := by simp only [Nat.mul_assoc, Nat.mul_left_comm]
    _ = g' * p' * (g * q) := e
    _ = (g * g') * (p' * q) := by simp only [Nat.mul_assoc, Nat.mul_left_comm]
  exact Nat.eq_of_mul_eq_mul_left (Nat.mul_pos g1 g2) this
 obtain ⟨rfl, rfl⟩ := coprime_cross c1 c2 q0 q0' hx
 unfold redF
 rw [e1, e2, e3, e4]
/-- What a reduced fraction is: of the same value. -/
theorem redF_ok {t b : Nat} {p q : Int} (hb : 1 ≤ b) (h : redF t b = (p, q, true)) : fracOk p q = true ∧ p * (b : Int) = (t : Int) * q ∧ redF t b = (p, q, true) := by
 have h0 := h
 unfold redF at h
 split at h
 ·rename_i hf
  have g1 : 0 < Nat.gcd t b := Nat.gcd_pos_of_pos_right _ (by omega)
  obtain ⟨x, hx⟩ := Nat.gcd_dvd_left t b
  obtain ⟨y, hy⟩ := Nat.gcd_dvd_right t b
  have e1 : t / Nat.gcd t b = x := Nat.div_eq_of_eq_mul_right g1 hx
  have e2 : b / Nat.gcd t b = y := Nat.div_eq_of_eq_mul_right g1 hy
  rw [e1, e2] at h hf
  simp only [Prod.mk.injEq, and_true] at h
  obtain ⟨rfl, rfl⟩ := h
  refine ⟨hf, ?_, h0⟩
  generalize Nat.gcd t b = g at *
  rw [hx, hy]
  push_cast
  rw [Int.mul_left_comm, Int.mul_assoc]
 ·simp at h
theorem fracOk_gcd {t b : Int} (h : fracOk t b = true) : Nat.gcd t.toNat b.toNat = 1 := by
 unfold fracOk at h
 simp only [Bool.and_eq_true, beq_iff_eq] at h
 have := h.2
 omega
/-- A fraction that is in lowest terms stays. -/
theorem redF_same {t b : Int} (h : fracOk t b = true) : redF t.toNat b.toNat = (t, b, true) := by
 obtain ⟨h1, h2, h3, h4⟩ := fracOk_iff h
 unfold redF
 rw [fracOk_gcd h, Nat.div_one, Nat.div_one, Int.toNat_of_nonneg h1, Int.toNat_of_nonneg (by omega), h, if_pos rfl]
theorem addF_zero {t b : Int} (h : fracOk t b = true) : addF t b 0 1 = (t, b, true) := by
 obtain ⟨h1, h2, h3, h4⟩ := fracOk_iff h
 unfold addF
 rw [h, show fracOk 0 1 = true from by decide]
 simp only [Bool.and_self, if_true, Int.mul_one, Int.zero_mul, Int.add_zero]
 exact redF_same h
theorem fracOk_sub {a b : Int} (h : fracOk a b = true) (hab : a ≤ b) : fracOk (b - a) b = true := by
 obtain ⟨h1, h2, h3, h4⟩ := fracOk_iff h
 have hg := fracOk_gcd h
 unfold fracOk
 have e : (b - a).toNat = b.toNat - a.toNat := by omega
 rw [inB_iff.2 ⟨h3, h4⟩, inB_iff.2 ⟨by omega, by omega⟩, e, Nat.gcd_comm, Nat.gcd_self_sub_right (by omega), Nat.gcd_comm, hg]
 rfl
/-- What is left of a share when a part of it is moved: both ways. -/
theorem less_mul {x y a b p q : Int} (hx : fracOk x y = true) (ha : fracOk a b = true) (hab : a ≤ b) (hm : mulF x y a b = (p, q, true)) : lessF x y p q = mulF x y (b - a) b := by
 obtain ⟨x1, x2, x3, x4⟩ := fracOk_iff hx
 obtain ⟨a1, a2, a3, a4⟩ := fracOk_iff ha
 unfold mulF at hm
 rw [hx, ha] at hm
 simp only [Bool.and_self, if_true] at hm
 have yb : 1 ≤ y * b := by have := Int.mul_le_mul x3 a3 (by omega) (by omega); omega
 obtain ⟨hf, hv, _⟩ := redF_ok (by omega) hm
 obtain ⟨p1, p2, p3, p4⟩ := fracOk_iff hf
 rw [Int.toNat_of_nonneg (by omega), Int.toNat_of_nonneg (Int.mul_nonneg x1 a1)] at hv
 -- p * (y * b) = x * a * q
 have hle : p * y ≤ x * q := by
  have h1 : (p * y) * b ≤ (x * q) * b := by
   have e1 : (p * y) * b = (x * q) * a := by
    rw [Int.mul_assoc, hv, Int.mul_right_comm]
   rw [e1]
   exact Int.mul_le_mul_of_nonneg_left hab (Int.mul_nonneg x1 (by omega))
  exact Int.le_of_mul_le_mul_right h1 (by omega)
 unfold lessF mulF
 rw [hx, hf, fracOk_sub ha hab, decide_eq_false (by omega)]
 simp only [Bool.and_self, Bool.not_false, if_true]
 have yq : 1 ≤ y * q := by have := Int.mul_le_mul x3 p3 (by omega) (by omega); omega
 refine redF_cross (by omega) (by omega) ?_
 have n1 : 0 ≤ x * q - p * y := by omega
 have n2 : 0 ≤ x * (b - a) := Int.mul_nonneg x1 (by omega)
 apply Int.ofNat.inj
 simp only [Int.ofNat_eq_natCast, Int.natCast_mul]
 rw [Int.toNat_of_nonneg n1, Int.toNat_of_nonneg n2, Int.toNat_of_nonneg (by omega), Int.toNat_of_nonneg (by omega)]
 -- (x q - p y) (y b) = x (b - a) (y q)
 have e1 : p * y * (y * b) = y * (x * a * q) := by
  rw [← hv]; simp only [Int.mul_assoc, Int.mul_left_comm]
 rw [Int.sub_mul, e1, Int.mul_sub, Int.sub_mul]
 congr 1 <;> simp only [Int.mul_assoc, Int.mul_left_comm, Int.mul_comm]
/-! ### lists of rights -/
def hasO (l : List T3) (o : Int) : Bool := l.any fun e => e.x == o
/-- The right of an owner turned (or out, if nothing is left). -/
def cutS : List T3 → Int → Int → Int → List T3
 | [], _, _, _ => []
 |e :: es, o, y, z => if e.x = o then (if y = 0 then es else ⟨o, y, z⟩ :: es) else e :: cutS es o y z
theorem cutS_cons (e : T3) (es : List T3) (o y z : Int) : cutS (e :: es) o y z = if e.x = o then (if y = 0 then es else ⟨o, y, z⟩ :: es) else e :: cutS es o y z := rfl
/-- A share added to the right of an owner, or a right put in. -/
def addSh : List T3 → Int → Int → Int → Option (List T3)
 | [], o, y, z => some [⟨o, y, z⟩]
 |e :: es, o, y, z => if e.x < o then (addSh es o y z).map (e :: ·) else if e.x = o then (if (addF e.y e.z y z).2.2 then some (⟨o, (addF e.y e.z y z).1, (addF e.y e.z y z).2.1⟩ :: es) else none) else some (⟨o, y, z⟩ :: e :: es)
theorem addSh_nil (o y z : Int) : addSh [] o y z = some [⟨o, y, z⟩] := rfl
theorem addSh_cons (e : T3) (es : List T3) (o y z : Int) : addSh (e :: es) o y z = if e.x < o then (addSh es o y z).map (e :: ·) else if e.x = o then (if (addF e.y e.z y z).2.2 then some (⟨o, (addF e.y e.z y z).1, (addF e.y e.z y z).2.1⟩ :: es) else none) else some (⟨o, y, z⟩ :: e :: es) := rfl
theorem addSh_len : ∀ (l : List T3) (o y z : Int) (r : List T3), addSh l o y z = some r → r.length ≤ l.length + 1
 | [], o, y, z, r, h => by rw [addSh_nil] at h; obtain rfl := Option.some.inj h; simp
 |e :: es, o, y, z, r, h => by
  rw [addSh_cons] at h
  split at h
  ·cases h2 : addSh es o y z with
   |none => rw [h2] at h; simp at h
   |some r' =>
    rw [h2] at h
    simp only [Option.map_some, Option.some.injEq] at h
    subst h
    have := addSh_len es o y z r' h2
    simp only [List.length_cons]; omega
  ·split at h
   ·split at h
    ·obtain rfl := Option.some.inj h; simp
    ·simp at h
   ·obtain rfl := Option.some.inj h; simp
/-- Owners that rise, from above p. -/
def upO : Int → List T3 → Prop
 |_, [] => True
 |p, e :: es => p < e.x ∧ upO e.x es
theorem upO.weaken : ∀ {l : List T3} {p q : Int}, upO p l → q ≤ p → upO q l
 | [], _, _, _, _ => trivial
 |e :: es, p, q, h, hq => ⟨by have := h.1; omega, h.2⟩
theorem upO.all : ∀ {l : List T3} {p : Int}, upO p l → ∀ e ∈ l, p < e.x
 | [], _, _, _, he => by simp at he
 |e :: es, p, h, e', he => by
  rcases List.mem_cons.1 he with rfl | he
  ·exact h.1
  ·have := upO.all h.2 e' he; have := h.1; omega
theorem rowsOk_up : ∀ {l : List T3} {p : Int}, rowsOk p l = true → upO p l
 | [], _, _ => trivial
 |e :: es, p, h => by
  rw [rowsOk_cons] at h
  simp only [Bool.and_eq_true, decide_eq_true_eq] at h
  exact ⟨h.1.1.2, rowsOk_up h.2⟩
theorem rights_up {l : List T3} (h : rightsOk l = true) : upO 0 l := by
 unfold rightsOk at h
 simp only [Bool.and_eq_true] at h
 exact rowsOk_up h.1.1
theorem rights_facts {l : List T3} (h : rightsOk l = true) : l.length ≤ 12 ∧ 1 ≤ l.length ∧ (∀ e ∈ l, fracOk e.y e.z = true ∧ 1 ≤ e.y ∧ 1 ≤ e.x ∧ e.x ≤ 999) := by
 have h0 := h
 unfold rightsOk at h
 simp only [Bool.and_eq_true] at h
 have hl := inB_iff.1 h.1.2
 refine ⟨by omega, by omega, ?_⟩
 have hs := h.2.1.1
 unfold sumShares at hs
 rw [if_pos (by omega)] at hs
 have hall := sumF_all l 0 1 hs
 have hrow : ∀ (l : List T3) (p : Int), rowsOk p l = true → ∀ e ∈ l, 1 ≤ e.y ∧ 1 ≤ e.x ∧ e.x ≤ 999 := by
  intro l
  induction l with
  |nil => intro p _ e he; simp at he
  |cons a tl ih =>
   intro p hp e he
   rw [rowsOk_cons] at hp
   simp only [Bool.and_eq_true, decide_eq_true_eq] at hp
   have := inB_iff.1 hp.1.1.1
   rcases List.mem_cons.1 he with rfl | he
   ·exact ⟨hp.1.2, by omega, by omega⟩
   ·exact ih _ hp.2 e he
 intro e he
 exact ⟨hall e he, hrow l 0 h.1.1 e he⟩
/-- The place of an owner in rising rights. -/
theorem findGo_split : ∀ (l : List T3) (k : Nat) (o : Int), findGo l k o = -1 ∧ hasO l o = false ∨ ∃ (p : List T3) (e : T3) (s : List T3), l = p ++ e :: s ∧ e.x = o ∧ hasO p o = false ∧ findGo l k o = ((k + p.length : Nat) : Int)
 | [], k, o => .inl ⟨rfl, rfl⟩
 |e :: es, k, o => by
  rw [findGo_cons]
  by_cases h : e.x = o
  ·rw [if_pos h]
   exact .inr ⟨[], e, es, rfl, h, rfl, by simp⟩
  ·rw [if_neg h]
   rcases findGo_split es (k + 1) o with ⟨h1, h2⟩ | ⟨p, e', s, h1, h2, h3, h4⟩
   ·exact .inl ⟨h1, by show (e.x == o || hasO es o) = false; rw [h2]; simp [h]⟩
   ·refine .inr ⟨e :: p, e', s, by rw [h1]; rfl, h2, by show (e.x == o || hasO p o) = false; rw [h3]; simp [h], ?_⟩
    rw [h4]; simp only [List.length_cons]; omega
theorem rightAt_split (l : List T3) (o : Int) : rightAt l o = -1 ∧ hasO l o = false ∨ ∃ (p : List T3) (e : T3) (s : List T3), l = p ++ e :: s ∧ e.x = o ∧ hasO p o = false ∧ rightAt l o = (p.length : Int) := by
 have := findGo_split l 0 o
 unfold rightAt
 simpa using this
theorem cutS_split : ∀ (p : List T3) (e : T3) (s : List T3) (o y z : Int), hasO p o = false → e.x = o → cutS (p ++ e :: s) o y z = p ++ (if y = 0 then s else ⟨o, y, z⟩ :: s)
 | [], e, s, o, y, z, _, h => by rw [List.nil_append, cutS_cons, if_pos h]; rfl
 |a :: p, e, s, o, y, z, hp, h => by
  have h1 : (a.x == o || hasO p o) = false := hp
  simp only [Bool.or_eq_false_iff, beq_eq_false_iff_ne] at h1
  rw [List.cons_append, cutS_cons, if_neg h1.1, cutS_split p e s o y z h1.2 h]; rfl
theorem cutS_none : ∀ (p : List T3) (o y z : Int), hasO p o = false → cutS p o y z = p
 | [], _, _, _, _ => rfl
 |a :: p, o, y, z, hp => by
  have h1 : (a.x == o || hasO p o) = false := hp
  simp only [Bool.or_eq_false_iff, beq_eq_false_iff_ne] at h1
  rw [cutS_cons, if_neg h1.1, cutS_none p o y z h1.2]
theorem upO_append : ∀ (p : List T3) (e : T3) (s : List T3) (q : Int), upO q (p ++ e :: s) → upO q p ∧ (∀ x ∈ p, x.x < e.x) ∧ q < e.x ∧ upO e.x s
 | [], e, s, q, h => ⟨trivial, by simp, h.1, h.2⟩
 |a :: p, e, s, q, h => by
  obtain ⟨h1, h2, h3, h4⟩ := upO_append p e s a.x h.2
  refine ⟨⟨h.1, h1⟩, ?_, by have := h.1; omega, h4⟩
  intro x hx
  rcases List.mem_cons.1 hx with rfl | hx
  ·exact h3
  ·exact h2 x hx
theorem shareOf_split (p : List T3) (e : T3) (s : List T3) (o : Int) (hp : hasO p o = false) (he : e.x = o) : shareOf (p ++ e :: s) o = (e.y, e.z) := by
 induction p with
 |nil => rw [List.nil_append, shareOf_cons, if_pos he]
 |cons a p ih =>
  have h1 : (a.x == o || hasO p o) = false := hp
  simp only [Bool.or_eq_false_iff, beq_eq_false_iff_ne] at h1
  rw [List.cons_append, shareOf_cons, if_neg h1.1, ih h1.2]
/-- Rising rights that have a right turned rise. -/
theorem upO_cut : ∀ (l : List T3) (o y z q : Int), upO q l → upO q (cutS l o y z)
 | [], _, _, _, _, _ => trivial
 |e :: es, o, y, z, q, h => by
  rw [cutS_cons]
  split
  ·rename_i he
   split
   ·exact h.2.weaken (by have := h.1; omega)
   ·exact ⟨by show q < o; rw [← he]; exact h.1, by show upO o es; rw [← he]; exact h.2⟩
  ·exact ⟨h.1, upO_cut es o y z e.x h.2⟩
theorem upO_add : ∀ (l : List T3) (o y z q : Int) (r : List T3), upO q l → q < o → addSh l o y z = some r → upO q r
 | [], o, y, z, q, r, _, hq, h => by rw [addSh_nil] at h; obtain rfl := Option.some.inj h; exact ⟨hq, trivial⟩
 |e :: es, o, y, z, q, r, hu, hq, h => by
  rw [addSh_cons] at h
  split at h
  ·rename_i hlt
   cases h2 : addSh es o y z with
   |none => rw [h2] at h; simp at h
   |some r' =>
    rw [h2] at h
    simp only [Option.map_some, Option.some.injEq] at h
    subst h
    exact ⟨hu.1, upO_add es o y z e.x r' hu.2 hlt h2⟩
  ·rename_i hlt
   split at h
   ·rename_i he
    split at h
    ·obtain rfl := Option.some.inj h
     exact ⟨hq, by show upO o es; rw [← he]; exact hu.2⟩
    ·simp at h
   ·rename_i he
    obtain rfl := Option.some.inj h
    exact ⟨hq, by show o < e.x; omega, hu.2⟩
/-- What is sold: the rights behind, and whether it is done. -/
def sellTo (l : List T3) (f t a b : Int) : Option (List T3) :=
 let p := shareOf l f
 let m := mulF p.1 p.2 a b
 let r := mulF p.1 p.2 (b - a) b
 if m.2.2 && r.2.2 then (if m.1 = 0 then some (cutS l f r.1 r.2.1) else addSh (cutS l f r.1 r.2.1) t m.1 m.2.1) else none
def sellG (l : List T3) (f t a b : Int) : Bool := rightsOk l && hasO l f && decide (f ≠ t) && inB t 1 999 && fracOk a b && decide (a ≤ b)
def sellF (l : List T3) (f t a b : Int) : List T3 × Bool :=
 if sellG l f t a b then (match sellTo l f t a b with | some r => if rightsOk r then (r, true) else (l, false) | none => (l, false)) else (l, false)
theorem sellF_no {l : List T3} {f t a b : Int} (h : sellG l f t a b = false) : sellF l f t a b = (l, false) := by unfold sellF; rw [h]; rfl
theorem sellF_none {l : List T3} {f t a b : Int} (h : sellTo l f t a b = none) : sellF l f t a b = (l, false) := by unfold sellF; rw [h]; split <;> rfl
theorem sellF_some {l r : List T3} {f t a b : Int} (hg : sellG l f t a b = true) (h : sellTo l f t a b = some r) : sellF l f t a b = if rightsOk r then (r, true) else (l, false) := by unfold sellF; rw [h, hg]; rfl
theorem sellF_len (l : List T3) (f t a b : Int) : (sellF l f t a b).1.length ≤ l.length + 1 ∨ (sellF l f t a b).1.length ≤ 12 := by
 unfold sellF
 split
 ·split
  ·split
   ·rename_i h; exact .inr (rights_facts h).1
   ·exact .inl (by simp)
  ·exact .inl (by simp)
 ·exact .inl (by simp)
theorem cutS_len (l : List T3) (o y z : Int) : (cutS l o y z).length ≤ l.length := by
 induction l with
 |nil => exact Nat.le_refl _
 |cons a l ih =>
  rw [cutS_cons]
  split
  ·split <;> simp
  ·simp only [List.length_cons]; omega
theorem frac_zero {p q : Int} (h : fracOk p q = true) (h0 : p = 0) : q = 1 := by
 subst h0
 have := fracOk_gcd h
 simp at this
 omega
theorem redF_pos {t b : Nat} {p q : Int} (hb : 1 ≤ b) (ht : 1 ≤ t) (h : redF t b = (p, q, true)) : 1 ≤ p := by
 obtain ⟨h1, h2, _⟩ := redF_ok hb h
 obtain ⟨p1, p2, q1, q2⟩ := fracOk_iff h1
 rcases Int.lt_or_le p 1 with h9 | h9
 ·have e : p = 0 := by omega
  rw [e, Int.zero_mul] at h2
  have := Int.mul_le_mul (show (1 : Int) ≤ (t : Int) by omega) q1 (by omega) (by omega)
  omega
 ·exact h9
/-! ### heirs -/
def riseB : Int → List Int → Bool
 |_, [] => true
 |p, x :: xs => inB x 1 999 && decide (p < x) && riseB x xs
theorem riseB_cons (p x : Int) (xs : List Int) : riseB p (x :: xs) = (inB x 1 999 && decide (p < x) && riseB x xs) := rfl
def addAll : List T3 → List Int → Int → Int → Option (List T3)
 |l, [], _, _ => some l
 |l, h :: hs, y, z => match addSh l h y z with
  |none => none
  |some r => addAll r hs y z
theorem addAll_nil (l : List T3) (y z : Int) : addAll l [] y z = some l := rfl
theorem addAll_yes {l r : List T3} {h : Int} {y z : Int} (hs : List Int) (e : addSh l h y z = some r) : addAll l (h :: hs) y z = addAll r hs y z := by
 show (match addSh l h y z with | none => none | some r => addAll r hs y z) = _
 rw [e]
theorem addAll_no {l : List T3} {h : Int} {y z : Int} (hs : List Int) (e : addSh l h y z = none) : addAll l (h :: hs) y z = none := by
 show (match addSh l h y z with | none => none | some r => addAll r hs y z) = _
 rw [e]
def inhG (l : List T3) (o : Int) (hs : List Int) : Bool := rightsOk l && hasO l o && inB hs.length 1 6 && riseB 0 hs && !decide (o ∈ hs)
def inhTo (l : List T3) (o : Int) (hs : List Int) : Option (List T3) :=
 let s := splitF (shareOf l o).1 (shareOf l o).2 hs.length
 if s.2.2 then addAll (cutS l o 0 1) hs s.1 s.2.1 else none
def inhF (l : List T3) (o : Int) (hs : List Int) : List T3 × Bool :=
 if inhG l o hs then (match inhTo l o hs with | some r => if rightsOk r then (r, true) else (l, false) | none => (l, false)) else (l, false)
theorem inhF_no {l : List T3} {o : Int} {hs : List Int} (h : inhG l o hs = false) : inhF l o hs = (l, false) := by unfold inhF; rw [h]; rfl
theorem inhF_none {l : List T3} {o : Int} {hs : List Int} (h : inhTo l o hs = none) : inhF l o hs = (l, false) := by unfold inhF; rw [h]; split <;> rfl
theorem inhF_some {l r : List T3} {o : Int} {hs : List Int} (hg : inhG l o hs = true) (h : inhTo l o hs = some r) : inhF l o hs = if rightsOk r then (r, true) else (l, false) := by unfold inhF; rw [h, hg]; rfl
end
end Go.Proofs.YtpmmjhpmheooeaaGreatDoor
