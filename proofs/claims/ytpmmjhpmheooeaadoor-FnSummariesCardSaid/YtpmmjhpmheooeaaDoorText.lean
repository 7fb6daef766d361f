/- Decimal texts. -/
import Derived.Test.YtpmmjhpmheooeaaDoorKa
import Derived.Test.YtpmmjhpmheooeaaDoorShelf
import Derived.Lib.ItoaNum
import Derived.Sort.Grow
import Derived.IntWalk
import Derived.Laws.IdiomStrings
namespace Go.Proofs.YtpmmjhpmheooeaaDoor
set_option linter.unusedSimpArgs false
set_option linter.unusedVariables false
open Go.RowKit
set_option maxRecDepth 20000
/-- A string value of these bytes. -/
abbrev sv (l : List UInt8) : Value := .string ⟨l.toArray⟩
/-- The table of powers of ten reads as it was laid. -/
def Tab (w : World) : Prop := Lib.TabIs Tryd.prog w "internal/strconv.uint64pow10" .u64 Lib.pow10Tab
theorem figS (d : Nat) (h : d < 10) : UInt8.ofNat (48 + d) = UInt8.ofNat (48 + d) := rfl
theorem dec_small {u : Nat} (h : u < 10) : Lib.decDigits u = [UInt8.ofNat (48 + u)] := by rw [Lib.decDigits, dif_pos h]
theorem dec_big {u : Nat} (h : ¬ u < 10) : Lib.decDigits u = Lib.decDigits (u / 10) ++ [UInt8.ofNat (48 + u % 10)] := by rw [Lib.decDigits, dif_neg h]
theorem l01Figure_any (d : Nat) (w : World) (h : d < 10) :
    Calls Tryd.prog 74 #[.int .i64 d] w fun e w' => e = .returned (.int .u8 (48 + d)) ∧ w = w' := by
  have h1 : (d : Int) < 10 := by omega
  have h2 : IntKind.u8.wrap (48 + (d : Int)) = 48 + d := by rw [IntKind.wrap]; simp [IntKind.bits, IntKind.signed] <;> omega
  go_enter Tryd.func74, Tryd.ntmps74
  go_wp2_with fail
  go_ret
  exact ⟨rfl, rfl⟩
theorem sv_app (a b : List UInt8) : Value.string ((⟨a.toArray⟩ : ByteArray) ++ ⟨b.toArray⟩) = sv (a ++ b) := by
  congr 1
theorem dec_len : ∀ (k u : Nat), u < 10 ^ (k + 1) → (Lib.decDigits u).length ≤ k + 1
  | 0, u, h => by rw [dec_small (by omega)]; simp
  | k + 1, u, h => by
    by_cases h0 : u < 10
    · rw [dec_small h0]; simp
    · rw [dec_big h0, List.length_append]
      have := dec_len k (u / 10) (by rw [Nat.pow_succ] at h; omega)
      simp; omega
theorem dec_len18 {u : Nat} (h : u ≤ 1000000000000000000) : (Lib.decDigits u).length ≤ 19 := dec_len 18 u (by omega)
theorem itoa_len {n : Int} (h : n ≤ 1000000000000000000) (h' : -1000000000000000000 ≤ n) : (Lib.itoa n).length ≤ 20 := by
  unfold Lib.itoa
  split
  · simp only [List.length_cons]
    have := dec_len18 (u := n.natAbs) (by omega)
    omega
  · have := dec_len18 (u := n.toNat) (by omega)
    omega
theorem fig_eq (r : Nat) : (48 : UInt8) + UInt8.ofNat r = UInt8.ofNat (48 + r) := by simp
theorem conv1 (W : World) (r : Nat) (h : r < 10) : (convert 28 9 (.slice (some ⟨W.heap.size, 0, none⟩) 1 1)).run Tryd.prog (W.alloc (.cells #[.int .u8 (48 + (r : Int))] 5)) = .ok (sv [UInt8.ofNat (48 + r)]) (W.alloc (.cells #[.int .u8 (48 + (r : Int))] 5)) := by
  refine run_convert_bytes_back _ _ _ 5 ⟨W.heap.size, 0, none⟩ 1 [UInt8.ofNat (48 + r)] Tryd.underlying28 Tryd.underlying5 Tryd.underlying9 (fun j hj => ?_)
  have hj0 : j = 0 := by simp at hj; omega
  subst hj0
  have e : (([UInt8.ofNat (48 + r)][0]'hj).toNat : Int) = 48 + (r : Int) := by
    show ((UInt8.ofNat (48 + r)).toNat : Int) = _
    rw [UInt8.toNat_ofNat']
    omega
  rw [e]
  simp [go_sem]
set_option maxHeartbeats 1600000 in
theorem FormatIntS_any (n : Int) (w : World) (hn : n ≤ 1000000000000000000) (hn' : -1000000000000000000 ≤ n) :
    Calls Tryd.prog 54 #[.int .i64 n] w fun e w' => e = .returned (sv (Lib.itoa n)) ∧ Below w.heap.size w w' := by
  by_cases h0 : n = 0
  · subst h0
    go_enter Tryd.func54, Tryd.ntmps54
    go_wp2_with fail
    go_ret
    exact ⟨by unfold Lib.itoa; rw [if_neg (by omega)]; rw [show (0 : Int).toNat = 0 from rfl, dec_small (by omega)]; rfl, by exact tacT⟩
  have d0 : (n == 0) = false := by simpa using h0
  obtain ⟨u, hu⟩ : ∃ u, u = n.natAbs := ⟨_, rfl⟩
  have hu0 : 0 < u := by omega
  have hu1 : u ≤ 1000000000000000000 := by omega
  have hul := dec_len18 hu1
  by_cases hneg : n < 0
  · have hit : Hid (Lib.itoa n = 45 :: Lib.decDigits u) := by show _ = _; unfold Lib.itoa; rw [if_pos hneg, ← hu]
    obtain rfl : n = -(u : Int) := by omega
    clear hu
    go_enter Tryd.func54, Tryd.ntmps54
    go_wp2_with fail
    go_loopw [0, 4] (fun nv s wr => ∃ (v : Nat) (l : List UInt8), v ≤ u ∧ nv = .int .i64 (-(v : Int)) ∧ s = sv l ∧ Hid ((v = 0 → l = Lib.decDigits u) ∧ (0 < v → Lib.decDigits v ++ l = Lib.decDigits u)) ∧ l.length ≤ 19 ∧ Hid (Below w.heap.size w wr)) (fun nv _ _ => (intOf nv).natAbs)
    case atStart => exact ⟨u, [], Nat.le_refl _, rfl, rfl, ⟨fun h => by omega, fun _ => by simp⟩, by simp, Below.refl _ _⟩
    case round =>
      obtain ⟨v, l, hv, rfl, rfl, HE, hll, HB⟩ := hrel
      by_cases hv0 : v = 0
      · subst hv0
        have hl := HE.out.1 rfl
        subst hl
        have d1 : ((-((0 : Nat) : Int)) != 0) = false := rfl
        have hcl : ¬ 9223372036854775807 < 1 + (Lib.decDigits u).length := by omega
        go_wp2_with fail
        go_ret
        exact ⟨by rw [hit.out]; exact congrArg _ (sv_app [45] _), HB.out⟩
      · have d1 : ((-(v : Int)) != 0) = true := by simpa using hv0
        obtain ⟨r, hr⟩ : ∃ r, r = v % 10 := ⟨_, rfl⟩
        obtain ⟨q, hq⟩ : ∃ q, q = v / 10 := ⟨_, rfl⟩
        have hmod : (-(v : Int)).tmod 10 = -(r : Int) := by rw [Int.neg_tmod, Int.tmod_eq_emod_of_nonneg (by omega)]; omega
        have hmod2 : (v : Int).tmod 10 = (r : Int) := by rw [Int.tmod_eq_emod_of_nonneg (by omega)]; omega
        have hdiv : (-(v : Int)).tdiv 10 = -(q : Int) := by rw [Int.neg_tdiv, Int.tdiv_eq_ediv_of_nonneg (by omega)]; omega
        have hdiv2 : (v : Int).tdiv 10 = (q : Int) := by rw [Int.tdiv_eq_ediv_of_nonneg (by omega)]; omega
        have hr10 : r < 10 := by omega
        have HV := Lib.hid (And.intro hr hq)
        have hcv := conv1 wr r hr10
        have hcl : ¬ 9223372036854775807 < 1 + l.length := by omega
        have HN : Hid ((q = 0 → UInt8.ofNat (48 + r) :: l = Lib.decDigits u) ∧ (0 < q → Lib.decDigits q ++ UInt8.ofNat (48 + r) :: l = Lib.decDigits u)) := by
          have h1 := HE.out.2 (by omega)
          constructor
          · intro hq0
            have hv10 : v < 10 := by omega
            rw [dec_small hv10] at h1
            rw [← h1, hr, Nat.mod_eq_of_lt hv10]; rfl
          · intro hq0
            have hv10 : ¬ v < 10 := by omega
            rw [dec_big hv10, ← hr, ← hq] at h1
            rw [← h1]; simp
        have hnl : (UInt8.ofNat (48 + r) :: l).length ≤ 19 := by
          rcases Nat.eq_zero_or_pos q with h9 | h9
          · rw [HN.out.1 h9]; exact hul
          · have := congrArg List.length (HN.out.2 h9)
            rw [List.length_append] at this
            omega
        clear hr hq
        have hqu : q ≤ u := by have := HV.out.2; omega
        have hw64 : wrap64 (-(q : Int)) = -(q : Int) := by unfold wrap64; omega
        by_cases hr0 : r = 0
        · subst hr0
          have hcv0 : (convert 28 9 (.slice (some ⟨wr.heap.size, 0, none⟩) 1 1)).run Tryd.prog (wr.alloc (.cells #[.int .u8 48] 5)) = .ok (sv [UInt8.ofNat (48 + 0)]) (wr.alloc (.cells #[.int .u8 48] 5)) := hcv
          go_wp2_with fail
          refine (l01Figure_any 0 wr hr10).mono ?_
          rintro e w' ⟨rfl, rfl⟩
          go_wp2_with fail
          go_roundw
          case rel => exact ⟨q, UInt8.ofNat (48 + 0) :: l, by have := HV.out.2; omega, by first | rfl | (rw [hw64]; done) | simp, by first | exact sv_app [_] l | (rw [fig_eq]; exact sv_app [_] l), HN.out, hnl, HB.out.alloc HB.out.size _⟩
          case measure => have := HV.out.2; simp [intOf]; omega
        · have hrn : -(r : Int) < 0 := by omega
          go_wp2_with fail
          refine (l01Figure_any r wr hr10).mono ?_
          rintro e w' ⟨rfl, rfl⟩
          go_wp2_with fail
          go_roundw
          case rel => exact ⟨q, UInt8.ofNat (48 + r) :: l, by have := HV.out.2; omega, by first | rfl | (rw [hw64]; done) | simp, by first | exact sv_app [_] l | (rw [fig_eq]; exact sv_app [_] l), HN.out, hnl, HB.out.alloc HB.out.size _⟩
          case measure => have := HV.out.2; simp [intOf]; omega
  · have hit : Hid (Lib.itoa n = Lib.decDigits u) := by show _ = _; unfold Lib.itoa; rw [if_neg hneg]; congr 1; omega
    obtain rfl : n = (u : Int) := by omega
    clear hu
    go_enter Tryd.func54, Tryd.ntmps54
    go_wp2_with fail
    go_loopw [0, 4] (fun nv s wr => ∃ (v : Nat) (l : List UInt8), v ≤ u ∧ nv = .int .i64 v ∧ s = sv l ∧ Hid ((v = 0 → l = Lib.decDigits u) ∧ (0 < v → Lib.decDigits v ++ l = Lib.decDigits u)) ∧ l.length ≤ 19 ∧ Hid (Below w.heap.size w wr)) (fun nv _ _ => (intOf nv).toNat)
    case atStart => exact ⟨u, [], Nat.le_refl _, rfl, rfl, ⟨fun h => by omega, fun _ => by simp⟩, by simp, Below.refl _ _⟩
    case round =>
      obtain ⟨v, l, hv, rfl, rfl, HE, hll, HB⟩ := hrel
      by_cases hv0 : v = 0
      · subst hv0
        have hl := HE.out.1 rfl
        subst hl
        have d1 : (((0 : Nat) : Int) != 0) = false := rfl
        go_wp2_with fail
        go_ret
        exact ⟨by rw [hit.out]; rfl, HB.out⟩
      · have d1 : ((v : Int) != 0) = true := by simpa using hv0
        obtain ⟨r, hr⟩ : ∃ r, r = v % 10 := ⟨_, rfl⟩
        obtain ⟨q, hq⟩ : ∃ q, q = v / 10 := ⟨_, rfl⟩
        have hmod : (v : Int).tmod 10 = (r : Int) := by rw [Int.tmod_eq_emod_of_nonneg (by omega)]; omega
        have hmod2 : (v : Int) % 10 = (r : Int) := by omega
        have hdiv : (v : Int).tdiv 10 = (q : Int) := by rw [Int.tdiv_eq_ediv_of_nonneg (by omega)]; omega
        have hdiv2 : (v : Int) / 10 = (q : Int) := by omega
        have hnn : ¬ (r : Int) < 0 := by omega
        have hr10 : r < 10 := by omega
        have HV := Lib.hid (And.intro hr hq)
        have hcv := conv1 wr r hr10
        have hcl : ¬ 9223372036854775807 < 1 + l.length := by omega
        have HN : Hid ((q = 0 → UInt8.ofNat (48 + r) :: l = Lib.decDigits u) ∧ (0 < q → Lib.decDigits q ++ UInt8.ofNat (48 + r) :: l = Lib.decDigits u)) := by
          have h1 := HE.out.2 (by omega)
          constructor
          · intro hq0
            have hv10 : v < 10 := by omega
            rw [dec_small hv10] at h1
            rw [← h1, hr, Nat.mod_eq_of_lt hv10]; rfl
          · intro hq0
            have hv10 : ¬ v < 10 := by omega
            rw [dec_big hv10, ← hr, ← hq] at h1
            rw [← h1]; simp
        have hnl : (UInt8.ofNat (48 + r) :: l).length ≤ 19 := by
          rcases Nat.eq_zero_or_pos q with h9 | h9
          · rw [HN.out.1 h9]; exact hul
          · have := congrArg List.length (HN.out.2 h9)
            rw [List.length_append] at this
            omega
        clear hr hq
        go_wp2_with fail
        refine (l01Figure_any r wr hr10).mono ?_
        rintro e w' ⟨rfl, rfl⟩
        go_wp2_with fail
        go_roundw
        case rel => exact ⟨q, UInt8.ofNat (48 + r) :: l, by have := HV.out.2; omega, by first | rfl | simp, by first | exact sv_app [_] l | (rw [fig_eq]; exact sv_app [_] l), HN.out, hnl, HB.out.alloc HB.out.size _⟩
        case measure => have := HV.out.2; simp [intOf]; omega
theorem Tab.below {w w' : World} (h : Tab w) (hb : Below w.heap.size w w') : Tab w' := by
  unfold Tab Lib.TabIs World.var? at *
  cases hg : Tryd.prog.globalNamed "internal/strconv.uint64pow10" with
  | none => rw [hg] at h; cases h
  | some g =>
    rw [hg] at h
    simp only [Option.bind_some] at h ⊢
    cases hh : w.heap[g]? with
    | none => rw [hh] at h; cases h
    | some o =>
      rw [hb.block g (Array.getElem?_eq_some_iff.1 hh).1]
      exact h
theorem FormatInt_any (n : Int) (w : World) (hn : n ≤ 9223372036854775807) (hn' : -9223372036854775808 ≤ n) (ht : Tab w) :
    Calls Tryd.prog 22 #[.int .i64 n] w fun e w' => e = .returned (sv (Lib.itoa n)) ∧ Below w.heap.size w w' := by
  have H := Lib.hid (Tryd.strconv_Itoa n hn' hn w ht)
  go_enter Tryd.func22, Tryd.ntmps22
  go_wp2_with fail
  refine H.out.mono ?_
  rintro e w' ⟨rfl, k, os, rfl⟩
  go_wp2_with fail
  go_ret
  exact ⟨rfl, ⟨rfl, rfl, rfl, by simp [Go.Sort.grow], fun i hi => by simp [Go.Sort.grow, Array.getElem?_append, hi]⟩⟩
theorem FormatInt_t (n : Int) (w : World) (h : -1000000000000000000 ≤ n ∧ n ≤ 1000000000000000000) (ht : Tab w) :
    Calls Tryd.prog 22 #[.int .i64 n] w fun e w' => e = .returned (sv (Lib.itoa n)) ∧ Below w.heap.size w w' := FormatInt_any n w (by omega) (by omega) ht
theorem FormatIntS_t (n : Int) (w : World) (h : -1000000000000000000 ≤ n ∧ n ≤ 1000000000000000000) (_ht : Tab w) :
    Calls Tryd.prog 54 #[.int .i64 n] w fun e w' => e = .returned (sv (Lib.itoa n)) ∧ Below w.heap.size w w' := FormatIntS_any n w (by omega) (by omega)
end Go.Proofs.YtpmmjhpmheooeaaDoor
