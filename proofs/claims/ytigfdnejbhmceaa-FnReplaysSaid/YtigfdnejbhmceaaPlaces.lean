/- Drawn places. -/
import Derived.Test.YtigfdnejbhmceaaDrewK
import Derived.Test.YtigfdnejbhmceaaKa
namespace Go.Proofs.Ytigfdnejbhmceaa
set_option linter.unusedSimpArgs false
set_option linter.unusedVariables false
open Go.RowKit
set_option maxRecDepth 20000
set_option maxHeartbeats 1600000 in
theorem DrawPlaces_any (A : Option Addr) (c : Nat) (l : List Int) (w : World) (h : RdY w w.heap.size A c l) (hs : l.length ≤ 1048576) :
    Calls Try.prog 8 #[.slice A l.length c] w fun e w' => ∃ (A' : Option Addr) (c' : Nat) (y : List Int), e = .returned (.slice A' y.length c') ∧ RdI w' w'.heap.size A' c' y ∧ (y.length = 12 ∧ ∀ x ∈ y, 0 ≤ x ∧ x ≤ 9999) ∧ Below w.heap.size w w' := by
  go_enter Try.func8, Try.ntmps8
  go_wp2_with fail
  refine (l01New_any A c l w h hs).mono ?_
  rintro e w1 ⟨p, rfl, hp, hc, hb⟩
  have hpl := hc.lt
  have hz1 := hb.size
  have H0 : Hid (Cur (w1.alloc (.cells #[] 3)) p ∧ OwnI (w1.alloc (.cells #[] 3)) w1.heap.size (some ⟨w1.heap.size, 0, none⟩) 0 [] ∧ w1.grownBy (w1.alloc (.cells #[] 3)) (some p)) := ⟨hc.below (Below.alloc (Below.refl w1.heap.size w1) (Nat.le_refl _) _) hpl, ownEmpty w1 w1.heap.size _ _ (Nat.le_refl _), ⟨rfl, rfl, rfl, by simp, fun k hk _ => Below.heap_alloc w1 _ k hk⟩⟩
  have HB := Lib.hid hb
  clear hc hb
  go_wp2_with fail
  go_loopw [4, 5] (fun v i wr => ∃ (k : Nat) (A : Option Addr) (c : Nat) (l : List Int), k ≤ 12 ∧ i = .int .i64 k ∧ v = .slice A l.length c ∧ Hid (Cur wr p ∧ OwnI wr w1.heap.size A c l ∧ w1.grownBy wr (some p)) ∧ Hid (l.length = k ∧ ∀ x ∈ l, 0 ≤ x ∧ x ≤ 9999)) (fun _ i _ => 12 - (intOf i).toNat)
  case atStart => exact ⟨0, _, 0, [], Nat.zero_le _, rfl, rfl, H0.out, ⟨rfl, by simp⟩⟩
  case round =>
    clear H0
    obtain ⟨k, A, c, l, hk, rfl, rfl, HO, HL⟩ := hrel
    have hlk := HL.out.1
    have hal := Lib.hid HL.out.2
    clear HL
    subst hlk
    have hsz := HO.out.2.2.size
    by_cases hlt : l.length < 12
    · have hki : (l.length : Int) < 12 := by omega
      go_wp2_with fail
      refine (l01Below_any p 10000 wr HO.out.1 (by omega)).mono ?_
      rintro e w2 ⟨x, rfl, x0, x1, _, hd⟩
      replace x1 := x1 (by omega)
      have D2 := Lib.hid hd
      clear hd
      have ho1 : OwnI (w2.alloc (.cells #[.int .i64 x] 3)) w1.heap.size A c l := (show OwnI w2 w1.heap.size A c l from Drew.rd D2.out HO.out.2.1 hpl).alloc _
      have hg1 := grownBy_trans HO.out.2.2 D2.out.2
      have hc1 := D2.out.1
      go_wp2_with (at_builtin; refine wpList_app1 rfl _ _ rfl w1.heap.size A c l rfl ho1 w2.heap.size _ rfl (cell_new1 _ _ _) (by omega) (by have := D2.out.size; first | omega | (simp; omega)) ?_)
      intro A2 c2 w4 ho2 hg2
      have hC4 : Cur w4 p := (hc1.below (Below.alloc (Below.refl w2.heap.size w2) (Nat.le_refl _) (.cells #[.int .i64 x] 3)) hc1.lt).other hg2 (fun k hk => by have := (own_block_ge ho1 hk).1; omega)
      have hg4 : w1.grownBy w4 (some p) := ⟨hg2.os.trans hg1.os, hg2.tape.trans hg1.tape, hg2.output.trans hg1.output, Nat.le_trans hg1.size (Nat.le_trans (by simp) hg2.size), fun k hk hn => (hg2.block k (by have := hg1.size; simp; omega) (fun e => by have := (own_block_ge ho1 e.symm).1; omega)).trans ((Below.heap_alloc w2 _ k (by have := hg1.size; omega)).trans (hg1.block k hk hn))⟩
      have H4 := Lib.hid (And.intro hC4 (And.intro ho2 hg4))
      have HL4 : Hid ((l ++ [x]).length = l.length + 1 ∧ ∀ y ∈ l ++ [x], 0 ≤ y ∧ y ≤ 9999) := ⟨by simp, fun y hy => by
        rcases List.mem_append.1 hy with hy | hy
        · exact hal.out y hy
        · simp only [List.mem_cons, List.not_mem_nil, or_false] at hy
          rw [hy]; omega⟩
      clear hC4 ho2 hg4 hg2 ho1 hg1 hc1
      go_wp2_with fail
      go_roundw
      case rel => exact ⟨l.length + 1, A2, c2, _, by omega, by go_num, by rw [List.length_append]; rfl, H4.out, HL4.out⟩
      case measure => simp [intOf]; omega
    · have hki : ¬ (l.length : Int) < 12 := by omega
      go_wp2_with fail
      go_ret
      exact ⟨A, c, l, rfl, HO.out.2.1.rd, ⟨by omega, hal.out⟩, HB.out.grown HO.out.2.2 HB.out.size (fun k hk => by have := Option.some.inj hk; omega)⟩
end Go.Proofs.Ytigfdnejbhmceaa
