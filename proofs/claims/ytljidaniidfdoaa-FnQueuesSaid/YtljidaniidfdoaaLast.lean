/- LastDone. -/
import Derived.Test.YtljidaniidfdoaaWait
import Derived.Test.YtljidaniidfdoaaApp
import Derived.Test.YtljidaniidfdoaaMem
import Derived.IntWalk
namespace Go.Proofs.Ytljidaniidfdoaa
open Go.RowKit
set_option maxRecDepth 20000
def sumI (l : List Int) : Int := l.foldl (· + ·) 0
theorem foldl_add : ∀ (l : List Int) (a : Int), l.foldl (· + ·) a = a + sumI l
  | [], a => by simp [sumI]
  | x :: l, a => by
    show (l.foldl (· + ·) (a + x)) = a + (l.foldl (· + ·) (0 + x))
    rw [foldl_add l, foldl_add l (0 + x)]; omega
theorem sumI_snoc (l : List Int) (x : Int) : sumI (l ++ [x]) = sumI l + x := by unfold sumI; rw [List.foldl_append]; rfl
theorem take_snocL (l : List Int) (k : Nat) (x : Int) (h : l[k]? = some x) : l.take (k + 1) = l.take k ++ [x] := by
  obtain ⟨hk, rfl⟩ := List.getElem?_eq_some_iff.1 h
  rw [List.take_succ_eq_append_getElem hk]
theorem sum_bd (l : List Int) (h : allIn l 1 100 = true) : ∀ k, k ≤ l.length → 0 ≤ sumI (l.take k) ∧ sumI (l.take k) ≤ 100 * k
  | 0, _ => ⟨by simp [sumI], by simp [sumI]⟩
  | k + 1, hk => by
    have hx : l[k]? = some l[k] := List.getElem?_eq_getElem (by omega)
    have := allIn_mem h hx
    have ih := sum_bd l h k (by omega)
    rw [take_snocL _ _ _ hx, sumI_snoc]
    omega
set_option maxHeartbeats 400000 in
theorem sumOf_any (A : Option Addr) (c : Nat) (l : List Int) (w : World) (h : RdI w w.heap.size A c l) (hq : queueOk l = true) :
    Calls Try.prog 46 #[.slice A l.length c] w fun e w' => e = .returned (.int .i64 (sumI l)) ∧ w = w' := by
  obtain ⟨hall, h12⟩ := queueOk_iff hq
  have HA := Lib.hid hall
  clear hq hall
  go_enter Try.func46, Try.ntmps46
  go_wp2_with fail
  go_loop [3, 8] (fun s i => ∃ k : Nat, k ≤ l.length ∧ i = .int .i64 k ∧ s = .int .i64 (sumI (l.take k))) (fun _ i => l.length - (intOf i).toNat)
  case atStart => exact ⟨0, Nat.zero_le _, rfl, by simp [sumI]⟩
  case round =>
    obtain ⟨k, hk, rfl, rfl⟩ := hrel
    have hb := sum_bd l HA.out k hk
    by_cases hlt : k < l.length
    · obtain ⟨b, o, x, rfl, hbb, hx, hcell⟩ := h.at_ hlt
      have hxx := allIn_mem HA.out hx
      have HS : Hid (sumI (l.take (k + 1)) = sumI (l.take k) + x) := by show _ = _; rw [take_snocL _ _ _ hx, sumI_snoc]
      clear hx
      go_wp2_with fail
      go_round
      case rel => exact ⟨k + 1, by omega, by go_num, by rw [HS.out]⟩
      case measure => simp [intOf]; omega
    · go_wp2_with fail
      go_ret
      exact ⟨ret_int (by rw [List.take_of_length_le (by omega)]), rfl⟩
def bitI (s k : Nat) : Bool := decide (s / 2 ^ k % 2 = 1)
def membersN (s n : Nat) : List Int := ((List.range n).filter (bitI s)).map Int.ofNat
theorem i64_and1 (n : Int) : bits .and .i64 n 1 = n % 2 := by
  have h127 : (BitVec.ofInt 64 1).toNat = 2 ^ 1 - 1 := by decide
  have key : (BitVec.ofInt 64 n &&& BitVec.ofInt 64 1).toNat = (n % ((2 ^ 64 : Nat) : Int)).toNat % 2 ^ 1 := by
    rw [BitVec.toNat_and, BitVec.toNat_ofInt, h127, Nat.and_two_pow_sub_one_eq_mod]
  show IntKind.i64.wrap ((BitVec.ofInt 64 n &&& BitVec.ofInt 64 1).toNat : Nat) = n % 2
  rw [key, IntKind.wrap_i64]
  omega
theorem bit_cast (s k : Nat) : (s : Int) / 2 ^ k = ((s / 2 ^ k : Nat) : Int) := by push_cast; rfl
theorem bit_test (s k : Nat) : (bits .and .i64 ((s : Int) / 2 ^ k) 1 == 1) = bitI s k := by
  rw [i64_and1, bit_cast]
  unfold bitI
  rw [Bool.eq_iff_iff]
  simp only [beq_iff_eq, decide_eq_true_eq]
  omega
theorem membersN_succ (s k : Nat) : membersN s (k + 1) = membersN s k ++ (if bitI s k then [(k : Int)] else []) := by
  unfold membersN
  rw [List.range_succ, List.filter_append, List.map_append]
  congr 1
  cases h : bitI s k <;> simp [h]
theorem membersN_stop (s k : Nat) (h : s / 2 ^ k = 0) : ∀ d, membersN s (k + d) = membersN s k
  | 0 => rfl
  | d + 1 => by
    rw [← Nat.add_assoc, membersN_succ, membersN_stop s k h d]
    have h0 : s / 2 ^ (k + d) = 0 := by
      rw [Nat.pow_add, ← Nat.div_div_eq_div_mul, h]; simp
    have : bitI s (k + d) = false := by unfold bitI; rw [h0]; rfl
    rw [this]; simp
theorem membersN_len (s : Nat) : ∀ k, (membersN s k).length ≤ k
  | 0 => by simp [membersN]
  | k + 1 => by
    rw [membersN_succ, List.length_append]
    have := membersN_len s k
    split <;> simp <;> omega
theorem membersN_mem {s n : Nat} {x : Int} (h : x ∈ membersN s n) : ∃ k : Nat, x = (k : Int) ∧ k < n := by
  unfold membersN at h
  obtain ⟨k, hk, rfl⟩ := List.mem_map.1 h
  exact ⟨k, rfl, List.mem_range.1 (List.mem_filter.1 hk).1⟩
set_option maxHeartbeats 800000 in
theorem membersOf_any (s : Nat) (w : World) (hs : s < 4096) :
    Calls Try.prog 47 #[.int .i64 s] w fun e w' => ∃ A' c', e = .returned (.slice A' (membersN s 12).length c') ∧ OwnI w' w.heap.size A' c' (membersN s 12) ∧ Below w.heap.size w w' := by
  go_enter Try.func47, Try.ntmps47
  go_wp2_with fail
  go_loopw [3, 4] (fun v i wr => ∃ (k : Nat) (A' : Option Addr) (c' : Nat), k ≤ 12 ∧ i = .int .i64 k ∧ v = .slice A' (membersN s k).length c' ∧ Hid (OwnI wr w.heap.size A' c' (membersN s k)) ∧ Hid (Below w.heap.size w wr)) (fun _ i _ => 13 - (intOf i).toNat)
  case atStart => exact ⟨0, none, 0, by omega, rfl, rfl, own_nil _ _, Below.refl _ _⟩
  case round =>
    obtain ⟨k, A', c', hk, rfl, rfl, HO, HB⟩ := hrel
    have hml := membersN_len s k
    have hbs := HB.out.size
    by_cases hz : 0 < s / 2 ^ k
    · have hz' : (0 : Int) < (s : Int) / 2 ^ k := by rw [bit_cast]; omega
      have hk11 : k < 12 := by
        rcases Nat.lt_or_ge k 12 with h1 | h1
        · exact h1
        · exfalso
          have : k = 12 := by omega
          subst this
          have : s / 2 ^ 12 = 0 := Nat.div_eq_of_lt (by omega)
          omega
      have hbt := bit_test s k
      have hsu := membersN_succ s k
      clear hz
      cases hb : bitI s k
      · rw [hb] at hbt hsu
        have HS : Hid (membersN s (k + 1) = membersN s k) := by show _ = _; rw [hsu]; simp
        clear hsu hb
        go_wp2_with fail
        go_roundw
        case rel => exact ⟨k + 1, A', c', by omega, by go_num, by rw [HS.out], (by show OwnI _ _ _ _ _; rw [HS.out]; exact HO.out), HB⟩
        case measure => simp [intOf]; omega
      · rw [hb] at hbt hsu
        have HS : Hid (membersN s (k + 1) = membersN s k ++ [(k : Int)]) := by show _ = _; rw [hsu]; simp
        clear hsu hb
        have ho := HO.out
        go_wp2_with (at_builtin; refine wpList_app1 rfl _ _ rfl w.heap.size A' c' (membersN s k) rfl (ho.alloc _) wr.heap.size _ rfl (cell_new1 _ _ _) (by omega) (by (first | omega | (simp; omega))) ?_)
        intro A2 c2 w2 ho2 hg2
        have hb2 : Below w.heap.size w w2 := below_grown_own (HB.out.alloc hbs _) (ho.alloc _) hg2 (Nat.le_refl _) (by first | omega | (simp; omega))
        have H2 := Lib.hid (And.intro ho2 hb2)
        clear ho2 hb2 hg2 ho
        go_wp2_with fail
        go_roundw
        case rel => exact ⟨k + 1, A2, c2, by omega, by go_num, (by rw [HS.out, List.length_append]; rfl), (by show OwnI _ _ _ _ _; rw [HS.out]; exact H2.out.1), H2.out.2⟩
        case measure => simp [intOf]; omega
    · have hz' : ¬ (0 : Int) < (s : Int) / 2 ^ k := by rw [bit_cast, Nat.eq_zero_of_not_pos hz]; simp
      have HS : Hid (membersN s 12 = membersN s k) := by
        show _ = _
        obtain ⟨d, hd⟩ : ∃ d, 12 = k + d := ⟨12 - k, by omega⟩
        rw [hd]; exact membersN_stop s k (Nat.eq_zero_of_not_pos hz) d
      clear hz
      go_wp2_with fail
      go_ret
      exact ⟨A', c', (by rw [HS.out]; rfl), (by rw [HS.out]; exact HO.out), HB.out⟩
end Go.Proofs.Ytljidaniidfdoaa
