/- Drawn years are valid. -/
import Derived.Test.YtnedbdpcimhfgaaDraw
import Derived.Test.YtnedbdpcimhfgaaYears
namespace Go.Proofs.Ytnedbdpcimhfgaa
open Go.RowKit
set_option maxRecDepth 20000
theorem allIn_snoc (l : List Int) (x a b : Int) : allIn (l ++ [x]) a b = (allIn l a b && inB x a b) := by unfold allIn; simp
set_option maxHeartbeats 1600000 in
theorem l36List_any (p : Nat) (w : World) (h : Cur w p) :
    Calls Try.prog 78 #[.pointer (some ⟨p, 0, none⟩)] w fun e w' => ∃ (A : Option Addr) (c : Nat) (l : List Int), e = .returned (.slice A l.length c) ∧ OwnI w' w.heap.size A c l ∧ yearsOk l = true ∧ l.length ≤ 12 ∧ w.grownBy w' (some p) := by
  have hpl := h.lt
  have hC := h.below (Below.alloc (Below.refl w.heap.size w) (Nat.le_refl _) (.cells #[] 3)) hpl
  have ho0 : OwnI (w.alloc (.cells #[] 3)) w.heap.size (some ⟨w.heap.size, 0, none⟩) 0 [] := ownEmpty w w.heap.size _ _ (Nat.le_refl _)
  have hg0 : w.grownBy (w.alloc (.cells #[] 3)) (some p) := ⟨rfl, rfl, rfl, by simp, fun k hk _ => Below.heap_alloc w _ k hk⟩
  have H0 := Lib.hid (And.intro hC (And.intro ho0 hg0))
  clear hC ho0 hg0
  go_enter Try.func78, Try.ntmps78
  go_wp2_with fail
  refine (l01Below_any p 12 _ H0.out.1 (by omega)).mono ?_
  rintro e w1 ⟨n, rfl, n0, n1, _, hd⟩
  replace n1 := n1 (by omega)
  obtain ⟨m, rfl⟩ := Int.eq_ofNat_of_zero_le n0
  have S0 : Hid (Cur w1 p ∧ OwnI w1 w.heap.size (some ⟨w.heap.size, 0, none⟩) 0 [] ∧ w.grownBy w1 (some p)) := ⟨hd.1, Row2.ownI (Row2.same (OwnI.row2 H0.out.2.1) (fun g hg => hd.2.block g (H0.out.2.1.lt g hg).2 (fun e => by have h9 := (H0.out.2.1.lt g hg).1; have := Option.some.inj e; omega))), grownBy_trans H0.out.2.2 hd.2⟩
  clear hd H0
  go_wp2_with fail
  go_loopw [3, 5] (fun v i wr => ∃ (k : Nat) (A : Option Addr) (c : Nat) (l : List Int), k ≤ m + 1 ∧ i = .int .i64 k ∧ v = .slice A l.length c ∧ Hid (Cur wr p ∧ OwnI wr w.heap.size A c l ∧ w.grownBy wr (some p)) ∧ Hid (l.length = k ∧ allIn l 0 100000 = true)) (fun _ i _ => m + 1 - (intOf i).toNat)
  case atStart => exact ⟨0, _, 0, [], Nat.zero_le _, rfl, rfl, S0, ⟨rfl, rfl⟩⟩
  case round =>
    clear S0
    obtain ⟨k, A, c, l, hk, rfl, rfl, HO, HL⟩ := hrel
    have hlk := HL.out.1
    have hal := Lib.hid HL.out.2
    clear HL
    subst hlk
    have hsz := HO.out.2.2.size
    have below_of : ∀ X : World, Drew p wr X → OwnI X w.heap.size A c l := fun X hd => Row2.ownI (Row2.same (OwnI.row2 HO.out.2.1) (fun g hg => hd.2.block g (HO.out.2.1.lt g hg).2 (fun e => by have h9 := (HO.out.2.1.lt g hg).1; have := Option.some.inj e; omega)))
    have HBO := Lib.hid below_of
    clear below_of
    by_cases hlt : l.length < m + 1
    · have hki : (l.length : Int) < 1 + (m : Int) := by omega
      go_wp2_with fail
      refine (l01Below_any p 200 wr HO.out.1 (by omega)).mono ?_
      rintro e w2 ⟨x, rfl, x0, x1, _, hd⟩
      replace x1 := x1 (by omega)
      have D2 := Lib.hid hd
      clear hd
      go_wp2_with fail
      refine (l01Once_any p 3 w2 D2.out.1 (by omega)).mono ?_
      rintro e w3 ⟨b, rfl, hd⟩
      have D3 := Lib.hid (D2.out.trans hd)
      clear hd
      cases b
      · have ho1 : OwnI (w3.alloc (.cells #[.int .i64 (300 + 4 * x)] 3)) w.heap.size A c l := (HBO.out _ D3.out).alloc _
        have hg1 := grownBy_trans HO.out.2.2 D3.out.2
        have hc1 := D3.out.1
        go_wp2_with (at_builtin; refine wpList_app1 rfl _ _ rfl w.heap.size A c l rfl ho1 w3.heap.size _ rfl (cell_new1 _ _ _) (by omega) (by have := D3.out.size; first | omega | (simp; omega)) ?_)
        intro A2 c2 w4 ho2 hg2
        have hpw : p < w.heap.size := hpl
        have hC4 : Cur w4 p := (hc1.below (Below.alloc (Below.refl w3.heap.size w3) (Nat.le_refl _) (.cells #[.int .i64 (300 + 4 * x)] 3)) hc1.lt).other hg2 (fun k hk => by have := (own_block_ge ho1 hk).1; omega)
        have hg4 : w.grownBy w4 (some p) := ⟨hg2.os.trans hg1.os, hg2.tape.trans hg1.tape, hg2.output.trans hg1.output, Nat.le_trans hg1.size (Nat.le_trans (by simp) hg2.size), fun k hk hn => (hg2.block k (by have := hg1.size; simp; omega) (fun e => by have := (own_block_ge ho1 e.symm).1; omega)).trans ((Below.heap_alloc w3 _ k (by have := hg1.size; omega)).trans (hg1.block k hk hn))⟩
        have H4 := Lib.hid (And.intro hC4 (And.intro ho2 hg4))
        have HL4 : Hid ((l ++ [300 + 4 * x]).length = l.length + 1 ∧ allIn (l ++ [300 + 4 * x]) 0 100000 = true) := ⟨by simp, by rw [allIn_snoc, hal.out, inB_iff.2 (by omega)]; rfl⟩
        clear hC4 ho2 hg4 hg2 ho1 hg1 hc1
        go_wp2_with fail
        go_roundw
        case rel => exact ⟨l.length + 1, A2, c2, _, by omega, by go_num, by rw [List.length_append]; rfl, H4.out, HL4.out⟩
        case measure => simp [intOf]; omega
      · go_wp2_with fail
        refine (l01Below_any p 200 w3 D3.out.1 (by omega)).mono ?_
        rintro e w4 ⟨y, rfl, y0, y1, _, hd⟩
        replace y1 := y1 (by omega)
        have D4 := Lib.hid (D3.out.trans hd)
        clear hd
        have ho1 : OwnI (w4.alloc (.cells #[.int .i64 y] 3)) w.heap.size A c l := (HBO.out _ D4.out).alloc _
        have hg1 := grownBy_trans HO.out.2.2 D4.out.2
        have hc1 := D4.out.1
        go_wp2_with (at_builtin; refine wpList_app1 rfl _ _ rfl w.heap.size A c l rfl ho1 w4.heap.size _ rfl (cell_new1 _ _ _) (by omega) (by have := D4.out.size; first | omega | (simp; omega)) ?_)
        intro A2 c2 w5 ho2 hg2
        have hC4 : Cur w5 p := (hc1.below (Below.alloc (Below.refl w4.heap.size w4) (Nat.le_refl _) (.cells #[.int .i64 y] 3)) hc1.lt).other hg2 (fun k hk => by have := (own_block_ge ho1 hk).1; omega)
        have hg4 : w.grownBy w5 (some p) := ⟨hg2.os.trans hg1.os, hg2.tape.trans hg1.tape, hg2.output.trans hg1.output, Nat.le_trans hg1.size (Nat.le_trans (by simp) hg2.size), fun k hk hn => (hg2.block k (by have := hg1.size; simp; omega) (fun e => by have := (own_block_ge ho1 e.symm).1; omega)).trans ((Below.heap_alloc w4 _ k (by have := hg1.size; omega)).trans (hg1.block k hk hn))⟩
        have H4 := Lib.hid (And.intro hC4 (And.intro ho2 hg4))
        have HL4 : Hid ((l ++ [y]).length = l.length + 1 ∧ allIn (l ++ [y]) 0 100000 = true) := ⟨by simp, by rw [allIn_snoc, hal.out, inB_iff.2 (by omega)]; rfl⟩
        clear hC4 ho2 hg4 hg2 ho1 hg1 hc1
        go_wp2_with fail
        go_roundw
        case rel => exact ⟨l.length + 1, A2, c2, _, by omega, by go_num, by rw [List.length_append]; rfl, H4.out, HL4.out⟩
        case measure => simp [intOf]; omega
    · have hki : ¬ (l.length : Int) < 1 + (m : Int) := by omega
      go_wp2_with fail
      go_ret
      exact ⟨A, c, l, rfl, HO.out.2.1, by unfold yearsOk; rw [hal.out, inB_iff.2 (by omega)]; rfl, by omega, HO.out.2.2⟩
set_option maxHeartbeats 800000 in
theorem DrawYears_any (A : Option Addr) (c : Nat) (l : List Int) (w : World) (h : RdY w w.heap.size A c l) (hs : l.length ≤ 1048576) :
    Calls Try.prog 47 #[.slice A l.length c] w fun e w' => ∃ (A' : Option Addr) (c' : Nat) (y : List Int), e = .returned (.slice A' y.length c') ∧ OwnI w' w.heap.size A' c' y ∧ yearsOk y = true ∧ y.length ≤ 12 ∧ Below w.heap.size w w' := by
  go_enter Try.func47, Try.ntmps47
  go_wp2_with fail
  refine (l01New_any A c l w h hs).mono ?_
  rintro e w1 ⟨p, rfl, hp, hc, hb⟩
  have HC := Lib.hid (And.intro hc hb)
  clear hc hb
  go_wp2_with fail
  refine (l36List_any p w1 HC.out.1).mono ?_
  rintro e w2 ⟨A', c', y, rfl, ho, hy, hl, hg⟩
  have H2 := Lib.hid (And.intro (own_mono' ho HC.out.2.size) (HC.out.2.grown hg HC.out.2.size (fun k hk => by have := Option.some.inj hk; omega)))
  clear ho hg
  go_wp2_with fail
  go_ret
  exact ⟨A', c', y, rfl, H2.out.1, hy, hl, H2.out.2⟩
end Go.Proofs.Ytnedbdpcimhfgaa
