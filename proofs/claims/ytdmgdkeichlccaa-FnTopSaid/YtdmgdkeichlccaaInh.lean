/- Inheriting shares: what both sides need of lists of heirs. -/
import Derived.Test.YtdmgdkeichlccaaSell0
namespace Go.Proofs.Ytdmgdkeichlccaa
set_option linter.unusedSimpArgs false
set_option linter.unusedVariables false
open Go.RowKit
set_option maxRecDepth 20000
theorem inhG_iff {l : List T3} {o : Int} {hs : List Int} : inhG l o hs = true ↔ rightsOk l = true ∧ hasO l o = true ∧ inB hs.length 1 6 = true ∧ riseB 0 hs = true ∧ ¬ o ∈ hs := by
  unfold inhG
  simp only [Bool.and_eq_true, Bool.not_eq_true', decide_eq_false_iff_not, and_assoc]
theorem inhG_no {l : List T3} {o : Int} {hs : List Int} (h : ¬ (rightsOk l = true ∧ hasO l o = true ∧ inB hs.length 1 6 = true ∧ riseB 0 hs = true ∧ ¬ o ∈ hs)) : inhF l o hs = (l, false) :=
  inhF_no (by cases hg : inhG l o hs
              · rfl
              · exact absurd (inhG_iff.1 hg) h)
theorem inhTo_is {l : List T3} {o y z s1 s2 : Int} {hs : List Int} {ok : Bool} (gs : shareOf l o = (y, z)) (hq : splitF y z hs.length = (s1, s2, ok)) : inhTo l o hs = if ok then addAll (cutS l o 0 1) hs s1 s2 else none := by
  unfold inhTo
  simp only [gs, hq]
theorem addAll_len : ∀ (hs : List Int) (l r : List T3) (y z : Int), addAll l hs y z = some r → r.length ≤ l.length + hs.length
  | [], l, r, y, z, h => by rw [addAll_nil] at h; obtain rfl := Option.some.inj h; simp
  | x :: hs, l, r, y, z, h => by
    cases h1 : addSh l x y z with
    | none => rw [addAll_no hs h1] at h; cases h
    | some q =>
      rw [addAll_yes hs h1] at h
      have h2 := addAll_len hs q r y z h
      have h3 := addSh_len l x y z q h1
      simp only [List.length_cons]; omega
theorem inhF_len (l : List T3) (o : Int) (hs : List Int) : (inhF l o hs).1.length ≤ l.length + 12 := by
  unfold inhF
  split
  · split
    · split
      · rename_i h; have := (rights_facts h).1; simp only; omega
      · simp
    · simp
  · simp
theorem splitF_pos {y z s1 s2 : Int} {n : Nat} (hy : 1 ≤ y) (h : splitF y z n = (s1, s2, true)) : fracOk s1 s2 = true ∧ 1 ≤ s1 := by
  unfold splitF at h
  split at h
  · rename_i hf
    simp only [Bool.and_eq_true] at hf
    obtain ⟨_, _, z1, _⟩ := fracOk_iff hf.1
    obtain ⟨n1, _⟩ := inB_iff.1 hf.2
    have h3 : 1 ≤ z * n := Int.mul_pos (by omega) (by omega)
    have h4 : 1 ≤ (z * n).toNat := by omega
    exact ⟨(redF_ok h4 h).1, redF_pos h4 (by omega) h⟩
  · simp at h
/-- How the heirs' walk goes on. -/
theorem addAll_end {l : List T3} {o y z s1 s2 : Int} {hs : List Int} (hG : inhG l o hs = true) (gs : shareOf l o = (y, z)) (hq : splitF y z hs.length = (s1, s2, true)) :
    inhF l o hs = match addAll (cutS l o 0 1) hs s1 s2 with | some r => if rightsOk r then (r, true) else (l, false) | none => (l, false) := by
  have h1 := inhTo_is gs hq
  rw [if_pos rfl] at h1
  cases h2 : addAll (cutS l o 0 1) hs s1 s2 with
  | none => rw [inhF_none (by rw [h1, h2])]
  | some r => rw [inhF_some hG (by rw [h1, h2])]
set_option maxHeartbeats 1600000 in
theorem rising_any (A : Option Addr) (c : Nat) (l : List Int) (w : World) (h : RdI w w.heap.size A c l) :
    Calls Try.prog 76 #[.slice A l.length c, .int .i64 1, .int .i64 999] w fun e w' => e = .returned (.bool (riseB 0 l)) ∧ w = w' := by
  obtain ⟨hl, hm⟩ := h.le
  obtain ⟨R, hR⟩ : ∃ R, R = riseB 0 l := ⟨_, rfl⟩
  rw [← hR]
  go_enter Try.func76, Try.ntmps76
  go_wp2_with fail
  go_loop [11] (fun i => ∃ (k : Nat) (p : Int), k ≤ l.length ∧ i = .int .i64 k ∧ Hid (R = riseB p (l.drop k)) ∧ Hid ((k = 0 → p = 0) ∧ (0 < k → l[k - 1]? = some p))) (fun i => l.length - (intOf i).toNat)
  case atStart => exact ⟨0, 0, Nat.zero_le _, rfl, by rw [hR]; rfl, ⟨fun _ => rfl, fun h9 => by omega⟩⟩
  case round =>
    clear hR
    obtain ⟨k, p, hk, rfl, HR, HP⟩ := hrel
    by_cases hlt : k < l.length
    · obtain ⟨bb, oo, x, hA, hbb, hx, e0⟩ := h.at_ hlt
      have hk0 : (0 : Int) ≤ (k : Int) := by omega
      have hk1 : (k : Int) < (l.length : Int) := by omega
      have HN := HR.out
      rw [drop_cons hx, riseB_cons] at HN
      have HX := Lib.hid hx
      have hprev : 0 < k → w.cell? ⟨bb, oo + (k - 1), none⟩ = some (.int .i64 p) := fun h0 => by
        obtain ⟨b2, o2, y, hA2, _, hy, e1⟩ := h.at_ (k := k - 1) (by omega)
        rw [hA] at hA2
        simp only [Option.some.injEq, Addr.mk.injEq, and_true] at hA2
        obtain ⟨rfl, rfl⟩ := hA2
        rw [HP.out.2 h0] at hy
        rw [Option.some.inj hy]; exact e1
      subst hA
      clear hx
      cases h1 : inB x 1 999
      · have HZ : Hid (R = false) := by rw [h1] at HN; exact HN
        have H1 := Lib.hid h1
        clear HN h1 hprev
        go_wp2_with (go_at_call 49; refine (within_any _ _ _ _).mono ?_; rw [H1.out]; rintro e w' ⟨rfl, rfl⟩)
        go_ret
        exact ⟨ret_bool HZ.out.symm, rfl⟩
      · rw [h1] at HN
        have H1 := Lib.hid h1
        obtain ⟨x1, x2⟩ := inB_iff.1 h1
        rcases Nat.eq_zero_or_pos k with rfl | hkp
        · have hp0 : p = 0 := HP.out.1 rfl
          have HZ : Hid (R = riseB x (l.drop (0 + 1))) := by
            show _ = _
            rw [HN, hp0, decide_eq_true (by omega : (0 : Int) < x)]; rfl
          clear HN h1 hprev hp0
          have e0' : w.cell? ⟨bb, oo, none⟩ = some (.int .i64 x) := by simpa using e0
          clear e0
          go_wp2_with (go_at_call 49; refine (within_any _ _ _ _).mono ?_; rw [H1.out]; rintro e w' ⟨rfl, rfl⟩)
          go_round
          case rel => exact ⟨0 + 1, x, by omega, by go_num, HZ, ⟨fun h9 => by omega, fun _ => HX.out⟩⟩
          case measure => simp [intOf]; omega
        · have hkp' : (0 : Int) < (k : Int) := by omega
          have hc1 := hprev hkp
          have hkm : ((k : Int) - 1) = ((k - 1 : Nat) : Int) := by omega
          have hkm0 : (0 : Int) ≤ ((k - 1 : Nat) : Int) := by omega
          have hkm1 : ((k - 1 : Nat) : Int) < (l.length : Int) := by omega
          by_cases hpx : x ≤ p
          · have HZ : Hid (R = false) := by
              show _ = _
              rw [HN, decide_eq_false (by omega : ¬ p < x)]; rfl
            have hd : decide (x ≤ p) = true := by simpa using hpx
            clear HN h1 hprev
            go_wp2_with (go_at_call 49; refine (within_any _ _ _ _).mono ?_; rw [H1.out]; rintro e w' ⟨rfl, rfl⟩)
            go_ret
            exact ⟨ret_bool HZ.out.symm, rfl⟩
          · have HZ : Hid (R = riseB x (l.drop (k + 1))) := by
              show _ = _
              rw [HN, decide_eq_true (by omega : p < x)]; rfl
            have hd : decide (x ≤ p) = false := by simpa using hpx
            clear HN h1 hprev
            go_wp2_with (go_at_call 49; refine (within_any _ _ _ _).mono ?_; rw [H1.out]; rintro e w' ⟨rfl, rfl⟩)
            go_round
            case rel => exact ⟨k + 1, x, by omega, by go_num, HZ, ⟨fun h9 => by omega, fun _ => HX.out⟩⟩
            case measure => simp [intOf]; omega
    · have HZ : Hid (R = true) := by have h9 := HR.out; rw [drop_end hlt] at h9; exact h9
      have hk1 : ¬ (k : Int) < (l.length : Int) := by omega
      go_wp2_with fail
      go_ret
      exact ⟨ret_bool HZ.out.symm, rfl⟩
set_option maxHeartbeats 800000 in
theorem hasInt_any (A : Option Addr) (c : Nat) (l : List Int) (x : Int) (w : World) (h : RdI w w.heap.size A c l) :
    Calls Try.prog 77 #[.slice A l.length c, .int .i64 x] w fun e w' => e = .returned (.bool (decide (x ∈ l))) ∧ w = w' := by
  obtain ⟨hl, hm⟩ := h.le
  obtain ⟨R, hR⟩ : ∃ R, R = decide (x ∈ l) := ⟨_, rfl⟩
  rw [← hR]
  go_enter Try.func77, Try.ntmps77
  go_wp2_with fail
  go_loop [9] (fun i => ∃ k : Nat, k ≤ l.length ∧ i = .int .i64 k ∧ Hid (R = decide (x ∈ l.drop k))) (fun i => l.length - (intOf i).toNat)
  case atStart => exact ⟨0, Nat.zero_le _, rfl, by rw [hR]; rfl⟩
  case round =>
    clear hR
    obtain ⟨k, hk, rfl, HR⟩ := hrel
    by_cases hlt : k < l.length
    · obtain ⟨bb, oo, y, rfl, hbb, hy, e0⟩ := h.at_ hlt
      have hk0 : (0 : Int) ≤ (k : Int) := by omega
      have hk1 : (k : Int) < (l.length : Int) := by omega
      have HN := HR.out
      rw [drop_cons hy] at HN
      clear hy
      by_cases hxy : y = x
      · have HZ : Hid (R = true) := by show R = true; rw [hxy] at HN; simpa using HN
        have hd : (y == x) = true := by simp [hxy]
        clear HN hxy
        go_wp2_with fail
        go_ret
        exact ⟨ret_bool HZ.out.symm, rfl⟩
      · have HZ : Hid (R = decide (x ∈ l.drop (k + 1))) := by
          show _ = _
          rw [HN]; simp [show ¬ x = y from fun h9 => hxy h9.symm]
        have hd : (y == x) = false := by simp [hxy]
        clear HN
        go_wp2_with fail
        go_round
        case rel => exact ⟨k + 1, by omega, by go_num, HZ⟩
        case measure => simp [intOf]; omega
    · have HZ : Hid (R = false) := by show R = false; have h9 := HR.out; rw [drop_end hlt] at h9; simpa using h9
      have hk1 : ¬ (k : Int) < (l.length : Int) := by omega
      go_wp2_with fail
      go_ret
      exact ⟨ret_bool HZ.out.symm, rfl⟩
end Go.Proofs.Ytdmgdkeichlccaa
