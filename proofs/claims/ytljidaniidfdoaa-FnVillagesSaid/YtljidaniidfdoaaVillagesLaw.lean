/- Drawn villages as arguments; the village of the law's last line. -/
import Derived.Test.YtljidaniidfdoaaVillDraw
import Derived.Test.YtljidaniidfdoaaVillagesPure
import Derived.Test.YtljidaniidfdoaaBooksLaw
namespace Go.Proofs.Ytljidaniidfdoaa
open Go.RowKit
set_option maxRecDepth 20000
set_option maxHeartbeats 3200000 in
theorem DrawVillage_any (A : Option Addr) (c : Nat) (l : List Int) (w : World) (h : RdY w w.heap.size A c l) (hs : l.length ≤ 1048576) :
    Calls Try.prog 29 #[.slice A l.length c] w fun e w' => ∃ (A : Option Addr) (c : Nat) (R : Option Addr) (d : Nat) (v : Vg), e = .returned (v.val A c R d) ∧ (BkD v.book 7 ∧ RtD v.rights) ∧ RdT w' w'.heap.size A c v.book.evs ∧ RdT w' w'.heap.size R d v.rights ∧ Below w.heap.size w w' := by
  have D0 : Hid (Below w.heap.size w (w.alloc (.cells #[.int .i64 0, .int .i64 0, .slice none 0 0, .int .i64 0, .int .i64 0, .int .i64 0, .int .i64 0, .slice none 0 0] 47))) := Below.alloc (Below.refl _ _) (Nat.le_refl _) _
  have K0 := Lib.hid (Blk.new w 47 #[.int .i64 0, .int .i64 0, .slice none 0 0, .int .i64 0, .int .i64 0, .int .i64 0, .int .i64 0, .slice none 0 0])
  have h0 : Hid (RdY (w.alloc (.cells #[.int .i64 0, .int .i64 0, .slice none 0 0, .int .i64 0, .int .i64 0, .int .i64 0, .int .i64 0, .slice none 0 0] 47)) (w.alloc (.cells #[.int .i64 0, .int .i64 0, .slice none 0 0, .int .i64 0, .int .i64 0, .int .i64 0, .int .i64 0, .slice none 0 0] 47)).heap.size A c l) := RdY.below h D0.out
  go_enter Try.func29, Try.ntmps29
  go_wp2_with fail
  refine (l01New_any A c l _ h0.out hs).mono ?_
  rintro e w1 ⟨p, rfl, hp, hc, hb⟩
  have hpw : w.heap.size < p := by simp at hp; omega
  have K1 := Lib.hid (K0.out.below hb (by simp))
  have B1 : Hid (Below w.heap.size w w1) := D0.out.trans (hb.mono (by simp))
  have HC := Lib.hid hc
  clear hc hb D0 K0 h0 hp
  have hp1 : p < w1.heap.size := HC.out.lt
  go_wp2_with fail
  refine (l38Village_any p w1 HC.out).mono ?_
  rintro e w2 ⟨A', c', R, d, ⟨⟨room, start, l', lv, ra, dr, lo⟩, rs⟩, rfl, hq, ho1, ho2, hd⟩
  have kb_r := hd.blk K1.out (by omega)
  have hB : Below w.heap.size w w2 := B1.out.grown hd.2 B1.out.size (fun k hk => by have := Option.some.inj hk; omega)
  have HQ := Lib.hid hq
  have hr_e := Row2.born ho1
  have hr_s := Row2.born ho2
  have hz1 : w.heap.size < w1.heap.size := K1.out.lt
  clear hd hq ho1 ho2 K1
  have kc_r := kb_r.cells
  have kf_r := kb_r.frozens
  have hl_r := kb_r.lt
  unfold Vg.val
  simp only at hr_e hr_s ⊢
  go_wp2_with fail
  refine bodyPost_ret (v := .agg #[.int .i64 room, .int .i64 start, .slice A' l'.length c', .int .i64 lv, .int .i64 ra, .int .i64 dr, .int .i64 lo, .slice R rs.length d]) ?_ rfl ⟨A', c', R, d, ⟨⟨room, start, l', lv, ra, dr, lo⟩, rs⟩, rfl, HQ.out, ?_, ?_, by exact tacT⟩
  · simp [results, Try.results29, go_sem, kc_r, hl_r]
  · exact (show Row2 _ w1.heap.size w2.heap.size 102 3 A' l'.length c' (t3s l') by exact rowT).rd
  · exact (show Row2 _ w1.heap.size w2.heap.size 62 3 R rs.length d (t3s rs) by exact rowT).rd
theorem open_80 : openV 80 30 4 = (newV 80 30 4, true) := by
  unfold openV
  rw [if_pos (by decide +kernel)]
theorem may_80 : mayDrink (newV 80 30 4) 4 = 30 := by decide +kernel
theorem may_bd {v : Vg} {o : Int} (hv : villageOk v = true) (ho : hasO v.rights o = true) : mayDrink v o ≤ 100000000000 := by
  obtain ⟨hb, hr⟩ := vg_ok hv
  obtain ⟨y, z, hy, hz, hf, o1, o2, hm⟩ := may_have hr ho
  have hmv := hm v.book hb
  rw [show (⟨v.book, v.rights⟩ : Vg) = v from rfl] at hmv
  have hq := fracOk_iff hf
  have hd := dby_bd o v.book.evs (book_liters hb)
  have hlv := book_level hb
  have hbd := book_bd hb
  rw [hmv]
  have hp : partOf y z (min 1000000 (v.book.start + v.book.rained)) ≤ 100000000000 := by
    unfold partOf
    split
    · rename_i h9
      simp only [Bool.and_eq_true] at h9
      have h8 := inB_iff.1 h9.2
      obtain ⟨a, ha⟩ : ∃ a, a = min 1000000 (v.book.start + v.book.rained) := ⟨_, rfl⟩
      rw [← ha] at h8 ⊢
      have h7 : a * y ≤ 1000000 * 10000 := Int.mul_le_mul h8.2 hq.2.1 hy (by omega)
      have h6 : 0 ≤ a * y := Int.mul_nonneg h8.1 hy
      have h5 := Int.ediv_le_self z h6
      omega
    · omega
  omega
end Go.Proofs.Ytljidaniidfdoaa
