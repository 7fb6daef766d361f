/- Looking a right up; parts of an amount. -/
import Derived.Test.YtpmmjhpmheooeaaDoorFrac
namespace Go.Proofs.YtpmmjhpmheooeaaDoor
set_option linter.unusedSimpArgs false
set_option linter.unusedVariables false
open Go.RowKit
set_option maxRecDepth 20000
def findGo : List T3 → Nat → Int → Int
  | [], _, _ => -1
  | t :: l, k, o => if t.x = o then (k : Int) else findGo l (k + 1) o
theorem findGo_cons (t : T3) (l : List T3) (k : Nat) (o : Int) : findGo (t :: l) k o = if t.x = o then (k : Int) else findGo l (k + 1) o := rfl
def rightAt (l : List T3) (o : Int) : Int := findGo l 0 o
def shareOf : List T3 → Int → Int × Int
  | [], _ => (0, 0)
  | t :: l, o => if t.x = o then (t.y, t.z) else shareOf l o
theorem shareOf_cons (t : T3) (l : List T3) (o : Int) : shareOf (t :: l) o = if t.x = o then (t.y, t.z) else shareOf l o := rfl
def partOf (t b amount : Int) : Int := if fracOk t b && inB amount 0 1000000 then amount * t / b else -1
theorem rightOf1_any (x y z o : Int) (g : Nat) (w : World) (hg : g < w.heap.size) (hc : w.cell? ⟨g, 0, none⟩ = some (.int .i64 o)) :
    Calls Tryd.prog 67 #[.agg #[.int .i64 x, .int .i64 y, .int .i64 z], .pointer (some ⟨g, 0, none⟩)] w fun e w' => e = .returned (.bool (x == o)) ∧ ∃ b : Obj, w' = w.alloc b := by
  have hn := Nat.ne_of_lt hg
  go_enter Tryd.func67, Tryd.ntmps67
  go_wp2
  go_ret
  exact ⟨rfl, _, rfl⟩
set_option maxHeartbeats 800000 in
theorem IndexRight_any (A : Option Addr) (c : Nat) (l : List T3) (o : Int) (g : Nat) (w : World) (h : RdT w w.heap.size A c l) (hg : g < w.heap.size) (hc : w.cell? ⟨g, 0, none⟩ = some (.int .i64 o)) :
    Calls Tryd.prog 66 #[.slice A l.length c, .func (.func 67) #[] #[.pointer (some ⟨g, 0, none⟩)]] w fun e w' => e = .returned (.int .i64 (rightAt l o)) ∧ Below w.heap.size w w' := by
  obtain ⟨hl, hm⟩ := h.le
  obtain ⟨R, hR⟩ : ∃ R, R = rightAt l o := ⟨_, rfl⟩
  rw [← hR]
  have HR : Hid (findGo (l.drop 0) 0 o = R) := hR.symm
  clear hR
  go_enter Tryd.func66, Tryd.ntmps66
  go_wp2_with fail
  go_loopw [8] (fun i wr => ∃ k : Nat, k ≤ l.length ∧ i = .int .i64 k ∧ Hid (findGo (l.drop k) k o = R) ∧ Below w.heap.size w wr) (fun i _ => l.length - (intOf i).toNat)
  case atStart => exact ⟨0, Nat.zero_le _, rfl, HR, Below.refl _ _⟩
  case round =>
    obtain ⟨k, hk, rfl, HR, hB⟩ := hrel
    have hbs := hB.size
    by_cases hlt : k < l.length
    · obtain ⟨bb, oo, x, rfl, hbb, hx, e0, e1, e2⟩ := h.at_ hlt
      have f0 : wr.cell? ⟨bb, oo + k * 3, none⟩ = some (.int .i64 x.x) := (hB.cell (p := ⟨bb, _, none⟩) hbb).trans e0
      have f1 : wr.cell? ⟨bb, oo + k * 3 + 1, none⟩ = some (.int .i64 x.y) := (hB.cell (p := ⟨bb, _, none⟩) hbb).trans e1
      have f2 : wr.cell? ⟨bb, oo + k * 3 + 2, none⟩ = some (.int .i64 x.z) := (hB.cell (p := ⟨bb, _, none⟩) hbb).trans e2
      have hc' : wr.cell? ⟨g, 0, none⟩ = some (.int .i64 o) := (hB.cell (p := ⟨g, _, none⟩) hg).trans hc
      clear e0 e1 e2
      have hk0 : (0 : Int) ≤ (k : Int) := by omega
      have hk1 : (k : Int) < (l.length : Int) := by omega
      have HX := Lib.hid hx
      clear hx
      cases hq : (x.x == o)
      · have hne : x.x ≠ o := by simpa using hq
        have HN : Hid (findGo (l.drop (k + 1)) (k + 1) o = R) := by show _ = _; rw [← HR.out, drop_cons HX.out, findGo_cons, if_neg hne]
        have HQ := Lib.hid hq
        clear hq hne
        go_wp2_with (go_at_call 67; refine (rightOf1_any _ _ _ o g _ (by omega) hc').mono ?_; rw [HQ.out]; rintro e w1 ⟨rfl, b1, rfl⟩)
        go_roundw
        case rel => exact ⟨k + 1, by omega, by go_num, HN, by exact tacT⟩
        case measure => simp [intOf]; omega
      · have hne : x.x = o := by simpa using hq
        have HN : Hid (R = (k : Int)) := by show _ = _; rw [← HR.out, drop_cons HX.out, findGo_cons, if_pos hne]
        have HQ := Lib.hid hq
        clear hq hne
        go_wp2_with (go_at_call 67; refine (rightOf1_any _ _ _ o g _ (by omega) hc').mono ?_; rw [HQ.out]; rintro e w1 ⟨rfl, b1, rfl⟩)
        go_ret
        exact ⟨ret_int HN.out.symm, by exact tacT⟩
    · have e1 := HR.out
      rw [drop_end hlt] at e1
      have HX : Hid (R = -1) := e1.symm
      clear e1
      go_wp2_with fail
      go_ret
      exact ⟨ret_int HX.out.symm, hB⟩
theorem rightOf_any (A : Option Addr) (c : Nat) (l : List T3) (o : Int) (w : World) (h : RdT w w.heap.size A c l) :
    Calls Tryd.prog 39 #[.slice A l.length c, .int .i64 o] w fun e w' => e = .returned (.int .i64 (rightAt l o)) ∧ Below w.heap.size w w' := by
  have H1 : Hid (∀ W : World, Below w.heap.size w W → ∀ g, g < W.heap.size → W.cell? ⟨g, 0, none⟩ = some (.int .i64 o) → Calls Tryd.prog 66 #[.slice A l.length c, .func (.func 67) #[] #[.pointer (some ⟨g, 0, none⟩)]] W fun e w' => e = .returned (.int .i64 (rightAt l o)) ∧ Below W.heap.size W w') := fun W hb g hg hc => IndexRight_any A c l o g W (h.below hb) hg hc
  have hB := Below.refl w.heap.size w
  go_enter Tryd.func39, Tryd.ntmps39
  go_wp2_with fail
  refine (H1.out _ (by exact tacT) _ (by simp) (by simp)).mono ?_
  rintro e w1 ⟨rfl, hb⟩
  go_wp2_with fail
  go_ret
  exact ⟨rfl, by exact tacT⟩
set_option maxHeartbeats 800000 in
theorem PartOf_any (t b m : Int) (w : World) :
    Calls Tryd.prog 50 #[.agg #[.int .i64 t, .int .i64 b], .int .i64 m] w fun e w' => e = .returned (.int .i64 (partOf t b m)) ∧ Below w.heap.size w w' := by
  have HF : Hid (∀ (W : World), Calls Tryd.prog 42 #[.agg #[.int .i64 t, .int .i64 b]] W fun e w' => e = .returned (.bool (fracOk t b)) ∧ Below W.heap.size W w') := fun W => FractionOk_any t b W
  have hB := Below.refl w.heap.size w
  cases h1 : fracOk t b
  · have E : Hid (partOf t b m = -1) := by unfold partOf; rw [h1]; rfl
    have H1 := Lib.hid h1
    clear h1
    go_enter Tryd.func50, Tryd.ntmps50
    go_wp2_with fail
    refine (HF.out _).mono ?_
    rw [H1.out]
    rintro e w1 ⟨rfl, hb⟩
    go_wp2_with fail
    go_ret
    exact ⟨ret_int E.out.symm, by exact tacT⟩
  cases h2 : inB m 0 1000000
  · have E : Hid (partOf t b m = -1) := by unfold partOf; rw [h1, h2]; rfl
    have H1 := Lib.hid h1
    have H2 := Lib.hid h2
    clear h1 h2
    go_enter Tryd.func50, Tryd.ntmps50
    go_wp2_with fail
    refine (HF.out _).mono ?_
    rw [H1.out]
    rintro e w1 ⟨rfl, hb⟩
    go_wp2_with fail
    refine (within_any _ _ _ _).mono ?_
    rw [H2.out]
    rintro e w2 ⟨rfl, rfl⟩
    go_wp2_with fail
    go_ret
    exact ⟨ret_int E.out.symm, by exact tacT⟩
  have E : Hid (partOf t b m = m * t / b) := by show _ = _; unfold partOf; rw [h1, h2]; rfl
  obtain ⟨f1, f2, f3, f4⟩ := fracOk_iff h1
  obtain ⟨m1, m2⟩ := inB_iff.1 h2
  have p1 : 0 ≤ m * t := Int.mul_nonneg m1 f1
  have p2 : m * t ≤ 10000000000 := by have := Int.mul_le_mul m2 f2 f1 (by omega); omega
  have H1 := Lib.hid h1
  have H2 := Lib.hid h2
  clear h1 h2
  go_enter Tryd.func50, Tryd.ntmps50
  go_wp2_with fail
  first | refine name_world ?_ | refine name_wp ?_
  intro W1 hW
  replace hB : Below w.heap.size w W1 := by rw [hW]; exact tacT
  have hz_W1 : w.heap.size ≤ W1.heap.size := by rw [hW]; exact sT
  replace kb_p : Blk W1 (w.heap.size) 49 #[.int .i64 t, .int .i64 b] := by rw [hW]; exact blkT
  have hLW1_p := kb_p.lt
  try clear kc_p kf_p
  clear hW
  refine (HF.out _).mono ?_
  rw [H1.out]
  rintro e w1 ⟨rfl, hb⟩
  replace hB := hB.trans (Below.mono hb hB.size)
  have hz_w1 : W1.heap.size ≤ w1.heap.size := Below.size hb
  replace kb_p := kb_p.mv hb; obtain ⟨kb_p, kc_p, kf_p, hl_p, hn_p⟩ := kb_p
  clear hb
  go_wp2_with fail
  refine (within_any _ _ _ _).mono ?_
  rw [H2.out]
  rintro e w2 ⟨rfl, rfl⟩
  go_wp2_with fail
  go_ret
  exact ⟨ret_int E.out.symm, by exact tacT⟩
end Go.Proofs.YtpmmjhpmheooeaaDoor
