/- Drawn times of a queue. -/
import Derived.Test.YtljidaniidfdoaaDrewK
import Derived.Test.YtljidaniidfdoaaApp
import Derived.Test.YtljidaniidfdoaaWait
namespace Go.Proofs.Ytljidaniidfdoaa
open Go.RowKit
set_option maxRecDepth 20000
theorem allIn_snocQ (l : List Int) (x a b : Int) : allIn (l ++ [x]) a b = (allIn l a b && inB x a b) := by unfold allIn; simp
set_option maxHeartbeats 1600000 in
theorem l34Times_any (p : Nat) (w : World) (h : Cur w p) :
    Calls Try.prog 40 #[.pointer (some ⟨p, 0, none⟩)] w fun e w' => ∃ (A : Option Addr) (c : Nat) (l : List Int), e = .returned (.slice A l.length c) ∧ OwnI w' w.heap.size A c l ∧ allIn l 1 30 = true ∧ l.length ≤ 7 ∧ w.grownBy w' (some p) := by
  have hpl := h.lt
  have hC := h.below (Below.alloc (Below.refl w.heap.size w) (Nat.le_refl _) (.cells #[] 3)) hpl
  have ho0 : OwnI (w.alloc (.cells #[] 3)) w.heap.size (some ⟨w.heap.size, 0, none⟩) 0 [] := ownEmpty w w.heap.size _ _ (Nat.le_refl _)
  have hg0 : w.grownBy (w.alloc (.cells #[] 3)) (some p) := ⟨rfl, rfl, rfl, by simp, fun k hk _ => Below.heap_alloc w _ k hk⟩
  have H0 := Lib.hid (And.intro hC (And.intro ho0 hg0))
  clear hC ho0 hg0
  go_enter Try.func40, Try.ntmps40
  go_wp2_with fail
  refine (l01Below_any p 8 _ H0.out.1 (by omega)).mono ?_
  rintro e w1 ⟨n, rfl, n0, n1, _, hd⟩
  replace n1 := n1 (by omega)
  obtain ⟨m, rfl⟩ := Int.eq_ofNat_of_zero_le n0
  have S0 : Hid (Cur w1 p ∧ OwnI w1 w.heap.size (some ⟨w.heap.size, 0, none⟩) 0 [] ∧ w.grownBy w1 (some p)) := ⟨hd.1, Drew.rd hd H0.out.2.1 hpl, grownBy_trans H0.out.2.2 hd.2⟩
  clear hd H0
  go_wp2_with fail
  go_loopw [3, 5] (fun v i wr => ∃ (k : Nat) (A : Option Addr) (c : Nat) (l : List Int), k ≤ m ∧ i = .int .i64 k ∧ v = .slice A l.length c ∧ Hid (Cur wr p ∧ OwnI wr w.heap.size A c l ∧ w.grownBy wr (some p)) ∧ Hid (l.length = k ∧ allIn l 1 30 = true)) (fun _ i _ => m - (intOf i).toNat)
  case atStart => exact ⟨0, _, 0, [], Nat.zero_le _, rfl, rfl, S0, ⟨rfl, rfl⟩⟩
  case round =>
    clear S0
    obtain ⟨k, A, c, l, hk, rfl, rfl, HO, HL⟩ := hrel
    have hlk := HL.out.1
    have hal := Lib.hid HL.out.2
    clear HL
    subst hlk
    have hsz := HO.out.2.2.size
    by_cases hlt : l.length < m
    · have hki : (l.length : Int) < (m : Int) := by omega
      go_wp2_with fail
      refine (l01Below_any p 30 wr HO.out.1 (by omega)).mono ?_
      rintro e w2 ⟨x, rfl, x0, x1, _, hd⟩
      replace x1 := x1 (by omega)
      have D2 := Lib.hid hd
      clear hd
      have ho1 : OwnI (w2.alloc (.cells #[.int .i64 (1 + x)] 3)) w.heap.size A c l := (show OwnI w2 w.heap.size A c l from Drew.rd D2.out HO.out.2.1 hpl).alloc _
      have hg1 := grownBy_trans HO.out.2.2 D2.out.2
      have hc1 := D2.out.1
      go_wp2_with (at_builtin; refine wpList_app1 rfl _ _ rfl w.heap.size A c l rfl ho1 w2.heap.size _ rfl (cell_new1 _ _ _) (by omega) (by have := D2.out.size; first | omega | (simp; omega)) ?_)
      intro A2 c2 w4 ho2 hg2
      have hC4 : Cur w4 p := (hc1.below (Below.alloc (Below.refl w2.heap.size w2) (Nat.le_refl _) (.cells #[.int .i64 (1 + x)] 3)) hc1.lt).other hg2 (fun k hk => by have := (own_block_ge ho1 hk).1; omega)
      have hg4 : w.grownBy w4 (some p) := ⟨hg2.os.trans hg1.os, hg2.tape.trans hg1.tape, hg2.output.trans hg1.output, Nat.le_trans hg1.size (Nat.le_trans (by simp) hg2.size), fun k hk hn => (hg2.block k (by have := hg1.size; simp; omega) (fun e => by have := (own_block_ge ho1 e.symm).1; omega)).trans ((Below.heap_alloc w2 _ k (by have := hg1.size; omega)).trans (hg1.block k hk hn))⟩
      have H4 := Lib.hid (And.intro hC4 (And.intro ho2 hg4))
      have HL4 : Hid ((l ++ [1 + x]).length = l.length + 1 ∧ allIn (l ++ [1 + x]) 1 30 = true) := ⟨by simp, by rw [allIn_snocQ, hal.out, inB_iff.2 (by omega)]; rfl⟩
      clear hC4 ho2 hg4 hg2 ho1 hg1 hc1
      go_wp2_with fail
      go_roundw
      case rel => exact ⟨l.length + 1, A2, c2, _, by omega, by go_num, by rw [List.length_append]; rfl, H4.out, HL4.out⟩
      case measure => simp [intOf]; omega
    · have hki : ¬ (l.length : Int) < (m : Int) := by omega
      go_wp2_with fail
      go_ret
      exact ⟨A, c, l, rfl, HO.out.2.1, hal.out, by omega, HO.out.2.2⟩
set_option maxHeartbeats 800000 in
theorem DrawQueue_any (A : Option Addr) (c : Nat) (l : List Int) (w : World) (h : RdY w w.heap.size A c l) (hs : l.length ≤ 1048576) :
    Calls Try.prog 9 #[.slice A l.length c] w fun e w' => ∃ (A' : Option Addr) (c' : Nat) (y : List Int), e = .returned (.slice A' y.length c') ∧ RdI w' w'.heap.size A' c' y ∧ allIn y 1 30 = true ∧ y.length ≤ 7 ∧ Below w.heap.size w w' := by
  go_enter Try.func9, Try.ntmps9
  go_wp2_with fail
  refine (l01New_any A c l w h hs).mono ?_
  rintro e w1 ⟨p, rfl, hp, hc, hb⟩
  have HC := Lib.hid (And.intro hc hb)
  clear hc hb
  go_wp2_with fail
  refine (l34Times_any p w1 HC.out.1).mono ?_
  rintro e w2 ⟨A', c', y, rfl, ho, hy, hl, hg⟩
  have H2 := Lib.hid (And.intro (OwnI.rd ho) (HC.out.2.grown hg HC.out.2.size (fun k hk => by have := Option.some.inj hk; omega)))
  clear ho hg
  go_wp2_with fail
  go_ret
  exact ⟨A', c', y, rfl, H2.out.1, hy, hl, H2.out.2⟩
end Go.Proofs.Ytljidaniidfdoaa
