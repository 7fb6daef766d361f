/- LastDone: both sides. -/
import Derived.Test.YtljidaniidfdoaaLast
namespace Go.Proofs.Ytljidaniidfdoaa
open Go.RowKit
set_option maxRecDepth 20000
def pick (l : List Int) (s : Nat) : Nat → Int
  | 0 => 0
  | k + 1 => pick l s k + (if bitI s k then l.getD k 0 else 0)
theorem pick_succ (l : List Int) (s k : Nat) : pick l s (k + 1) = pick l s k + (if bitI s k then l.getD k 0 else 0) := rfl
theorem pick_bd (l : List Int) (s : Nat) (h : allIn l 1 100 = true) : ∀ k, k ≤ l.length → 0 ≤ pick l s k ∧ pick l s k ≤ 100 * k
  | 0, _ => ⟨Int.le_refl _, by show (0 : Int) ≤ 100 * ((0 : Nat) : Int); omega⟩
  | k + 1, hk => by
    have hx : l[k]? = some l[k] := List.getElem?_eq_getElem (by omega)
    have h1 := allIn_mem h hx
    have ih := pick_bd l s h k (by omega)
    have hg : l.getD k 0 = l[k] := by rw [List.getD_eq_getElem?_getD, hx]; rfl
    rw [pick_succ, hg]
    split <;> omega
theorem membersN_low (s n m : Nat) (h : s < 2 ^ n) (hm : n ≤ m) : membersN s m = membersN s n := by
  obtain ⟨d, rfl⟩ : ∃ d, m = n + d := ⟨m - n, by omega⟩
  exact membersN_stop s n (Nat.div_eq_of_lt h) d
theorem pick_members (l : List Int) (s : Nat) : ∀ k, sumI ((membersN s k).map fun i => l.getD i.toNat 0) = pick l s k
  | 0 => rfl
  | k + 1 => by
    rw [membersN_succ, pick_succ, List.map_append]
    have ih := pick_members l s k
    split
    · rw [List.map_cons, List.map_nil, sumI_snoc, ih]; simp
    · rw [List.map_nil, List.append_nil, ih]; omega
theorem sum_map_bd (f : Int → Int) : ∀ (m : List Int), (∀ x ∈ m, 0 ≤ f x ∧ f x ≤ 100) → 0 ≤ sumI (m.map f) ∧ sumI (m.map f) ≤ 100 * m.length
  | [], _ => ⟨Int.le_refl _, by show (0 : Int) ≤ 100 * ((0 : Nat) : Int); omega⟩
  | x :: m, h => by
    have h1 := h x (List.mem_cons_self ..)
    have ih := sum_map_bd f m fun y hy => h y (List.mem_cons_of_mem _ hy)
    have e : sumI ((x :: m).map f) = f x + sumI (m.map f) := by
      show (List.foldl (· + ·) (0 + f x) (m.map f)) = _
      rw [foldl_add]; omega
    rw [e, List.length_cons]
    omega
def lastGo (l : List Int) : Nat → Nat → Int → Int
  | 0, _, b => b
  | f + 1, s, b => lastGo l f (s + 1) (min b (max (pick l s l.length) (sumI l - pick l s l.length)))
theorem lastGo_succ (l : List Int) (f s : Nat) (b : Int) : lastGo l (f + 1) s b = lastGo l f (s + 1) (min b (max (pick l s l.length) (sumI l - pick l s l.length))) := rfl
def lastDone (l : List Int) : Int := if queueOk l then lastGo l (2 ^ l.length) 0 (sumI l) else -1
theorem pow12 {n : Nat} (h : n ≤ 12) : 2 ^ n ≤ 4096 := Nat.pow_le_pow_right (by decide) (n := 2) h
theorem min_ifL (a b : Int) : min a b = if b < a then b else a := by split <;> omega
theorem max_ifL (a b : Int) : max a b = if a < b then b else a := by split <;> omega
set_option maxHeartbeats 1600000 in
theorem LastDone_any (A : Option Addr) (c : Nat) (l : List Int) (w : World) (h : RdI w w.heap.size A c l) :
    Calls Try.prog 14 #[.slice A l.length c] w fun e w' => e = .returned (.int .i64 (lastDone l)) ∧ Below w.heap.size w w' := by
  obtain ⟨hl, hm⟩ := h.le
  have H1 := Lib.hid (QueueOk_any A c l w h)
  cases hq : queueOk l
  · have E : Hid (lastDone l = -1) := by show _ = _; unfold lastDone; rw [hq]; rfl
    have K := Lib.hid hq
    clear hq
    go_enter Try.func14, Try.ntmps14
    go_wp2_with fail
    refine H1.out.mono ?_
    rw [K.out]
    rintro e w1 ⟨rfl, rfl⟩
    go_wp2_with fail
    go_ret
    exact ⟨ret_int E.out.symm, Below.refl _ _⟩
  obtain ⟨R, hR⟩ : ∃ R, R = lastGo l (2 ^ l.length) 0 (sumI l) := ⟨_, rfl⟩
  have E : Hid (lastDone l = R) := by show _ = _; unfold lastDone; rw [hq, if_pos rfl, hR]
  have H2 := Lib.hid (sumOf_any A c l w h hq)
  obtain ⟨hall, h12⟩ := queueOk_iff hq
  have sb := sum_bd l hall l.length (Nat.le_refl _)
  rw [List.take_of_length_le (Nat.le_refl _)] at sb
  have HA := Lib.hid hall
  have K := Lib.hid hq
  have hpw := pow12 h12
  obtain ⟨N, hN⟩ : ∃ N, N = 2 ^ l.length := ⟨_, rfl⟩
  rw [← hN] at hR hpw
  have hsh : IntKind.i64.wrap (2 ^ l.length) = (N : Int) := by
    have : (2 : Int) ^ l.length = (N : Int) := by rw [hN]; push_cast; rfl
    rw [this]; exact IntWalk.i64_in _ (by omega)
  have HN := Lib.hid hN
  have HR : Hid (lastGo l N 0 (sumI l) = R) := hR.symm
  clear hq hall hN hR
  go_enter Try.func14, Try.ntmps14
  go_wp2_with fail
  refine H1.out.mono ?_
  rw [K.out]
  rintro e w1 ⟨rfl, rfl⟩
  go_wp2_with fail
  refine H2.out.mono ?_
  rintro e w1 ⟨rfl, rfl⟩
  go_wp2_with fail
  go_loopw [4, 5] (fun b i wr => ∃ (s : Nat) (best : Int), s ≤ N ∧ i = .int .i64 s ∧ b = .int .i64 best ∧ Hid (lastGo l (N - s) s best = R) ∧ Below w.heap.size w wr) (fun _ i _ => N - (intOf i).toNat)
  case atStart => exact ⟨0, _, Nat.zero_le _, rfl, rfl, HR, Below.refl _ _⟩
  case round =>
    obtain ⟨s, best, hs, rfl, rfl, HG, hB⟩ := hrel
    by_cases hlt : s < N
    · have hlt' : (s : Int) < (N : Int) := by omega
      have hsN : s < 2 ^ l.length := by rw [← HN.out]; exact hlt
      obtain ⟨P, hP⟩ : ∃ P, P = pick l s l.length := ⟨_, rfl⟩
      have pb := pick_bd l s HA.out l.length (Nat.le_refl _)
      rw [← hP] at pb
      have HG' : Hid (lastGo l (N - (s + 1)) (s + 1) (min best (max P (sumI l - P))) = R) := by
        show _ = _
        rw [← HG.out, show N - s = (N - (s + 1)) + 1 by omega, lastGo_succ, hP]
      have H3 := Lib.hid (membersOf_any s wr (by omega))
      obtain ⟨m, hm⟩ : ∃ m, m = membersN s 12 := ⟨_, rfl⟩
      rw [← hm] at H3
      have hmm : ∀ x ∈ m, ∃ k : Nat, x = (k : Int) ∧ k < l.length := fun x hx => by
        rw [hm, membersN_low s l.length 12 hsN h12] at hx; exact membersN_mem hx
      have hPm : Hid (sumI (m.map fun i => l.getD i.toNat 0) = P) := by
        show _ = _
        rw [hm, membersN_low s l.length 12 hsN h12, pick_members, hP]
      have hml : m.length ≤ 12 := by rw [hm]; exact membersN_len s 12
      have hfb : ∀ x ∈ m, 0 ≤ l.getD x.toNat 0 ∧ l.getD x.toNat 0 ≤ 100 := fun x hx => by
        obtain ⟨k, rfl, hk⟩ := hmm x hx
        have hx' : l[k]? = some l[k] := List.getElem?_eq_getElem hk
        have := allIn_mem HA.out hx'
        rw [Int.toNat_natCast, List.getD_eq_getElem?_getD, hx']
        exact ⟨by show (0 : Int) ≤ l[k]; omega, by show l[k] ≤ (100 : Int); omega⟩
      have HM := Lib.hid (And.intro hmm hfb)
      clear hP hm hmm hfb HG hsN
      go_wp2_with fail
      refine H3.out.mono ?_
      rintro e w2 ⟨A2, c2, rfl, ho, hb⟩
      have hB2 := hB.trans (Below.mono hb hB.size)
      have hrd := ho.rd
      have HB2 := Lib.hid hB2
      have hle := hrd.le
      clear ho hb hB hB2
      go_wp2_with fail
      go_loop [6, 25] (fun nn i => ∃ j : Nat, j ≤ m.length ∧ i = .int .i64 j ∧ nn = .int .i64 (sumI ((m.take j).map fun i => l.getD i.toNat 0))) (fun _ i => m.length - (intOf i).toNat)
      case atStart => exact ⟨0, Nat.zero_le _, rfl, by simp [sumI]⟩
      case round =>
        obtain ⟨j, hj, rfl, rfl⟩ := hrel
        by_cases hjl : j < m.length
        · obtain ⟨bb, oo, x, rfl, hbb, hx, hcx⟩ := hrd.at_ hjl
          obtain ⟨kx, rfl, hkx⟩ := HM.out.1 x (List.mem_of_getElem? hx)
          obtain ⟨b, o, y, rfl, hb', hy, hcy⟩ := h.at_ hkx
          have hcy' : w2.cell? ⟨b, o + kx, none⟩ = some (.int .i64 y) := (HB2.out.cell (p := ⟨b, _, none⟩) hb').trans hcy
          have hyb := allIn_mem HA.out hy
          have hsb := sum_map_bd (fun i => l.getD i.toNat 0) (m.take j) (fun z hz => HM.out.2 z (List.mem_of_mem_take hz))
          have htl : (m.take j).length ≤ 12 := by rw [List.length_take]; omega
          have HS : Hid (sumI ((m.take (j + 1)).map fun i => l.getD i.toNat 0) = sumI ((m.take j).map fun i => l.getD i.toNat 0) + y) := by
            show _ = _
            rw [take_snocL _ _ _ hx, List.map_append, List.map_cons, List.map_nil, sumI_snoc, Int.toNat_natCast, List.getD_eq_getElem?_getD (l := l), hy]; rfl
          obtain ⟨S, hS⟩ : ∃ S, S = sumI ((m.take j).map fun i => l.getD i.toNat 0) := ⟨_, rfl⟩
          rw [← hS] at hsb HS ⊢
          have x0 : (0 : Int) ≤ (kx : Int) := by omega
          have x1 : (kx : Int) < (l.length : Int) := by omega
          have j0 : (0 : Int) ≤ (j : Int) := by omega
          have j1 : (j : Int) < (m.length : Int) := by omega
          clear hx hy hcy hS
          go_wp2_with fail
          go_round
          case rel => exact ⟨j + 1, by omega, by go_num, by rw [HS.out]⟩
          case measure => simp [intOf]; omega
        · have HQ : Hid (sumI ((m.take j).map fun i => l.getD i.toNat 0) = P) := by show _ = _; rw [List.take_of_length_le (by omega)]; exact hPm.out
          rw [HQ.out]
          have jn : ¬ (j : Int) < (m.length : Int) := by omega
          go_wp2_with fail
          all_goals
            go_roundw
            case rel =>
              refine ⟨s + 1, _, by omega, by go_num, rfl, ?_, HB2.out⟩
              show lastGo _ _ _ _ = _
              rw [← HG'.out]
              congr 1
              omega
            case measure => simp [intOf]; omega
    · have hlt' : ¬ (s : Int) < (N : Int) := by omega
      have HQ : Hid (best = R) := by
        have := HG.out
        rw [show N - s = 0 by omega] at this
        exact this
      go_wp2_with fail
      go_ret
      exact ⟨ret_int (by rw [E.out, HQ.out]), hB⟩
end Go.Proofs.Ytljidaniidfdoaa
