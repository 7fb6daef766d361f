/- The law FnBooks answers true for every code. No conditions. -/
import Derived.Test.YtminkdapfamdeaaBooksLaw
import Derived.Test.YtminkdapfamdeaaOpenBytes
namespace Go.Proofs.Ytminkdapfamdeaa
open Go.ChangeShapes Go.WideShapes Go.ChangeAt Go.RowKit
set_option maxRecDepth 20000
set_option maxHeartbeats 12800000 in
theorem walk_FnBooks (w0 : World) (A0 : Option Addr) (c0 : Nat) (l0 : List Int) (h0 : RdY w0 w0.heap.size A0 c0 l0) :
    Calls Try.prog 3 #[.slice A0 l0.length c0] w0 fun e w' => e = .returned (.bool true) ∧ Below w0.heap.size w0 w' := by
  obtain ⟨hl0, hm0⟩ := h0.le
  by_cases hbig : (1048576 : Int) < l0.length
  · go_enter Try.func3, Try.ntmps3
    go_wp2_with fail
    refine (big_any A0 l0.length c0 w0 (by omega)).mono ?_
    rintro e w1 ⟨rfl, rfl⟩
    go_wp2_with fail
    go_ret
    exact ⟨rfl, Below.refl _ _⟩
  have hs : l0.length ≤ 1048576 := by omega
  have hbd : decide ((1048576 : Int) < l0.length) = false := by simpa using hbig
  go_enter Try.func3, Try.ntmps3
  go_wp2_with fail
  refine (big_any A0 l0.length c0 w0 (by omega)).mono ?_
  rintro e w1 ⟨rfl, rfl⟩
  rw [hbd]
  go_wp2_with fail
  refine (DrawBook_any A0 c0 l0 w0 h0 hs).mono ?_
  rintro e w ⟨A, c, b, rfl, hq, hr, hB00⟩
  have HB0 := Lib.hid hB00
  unfold Bk.val
  have HAT : Hid (∀ W, Below w.heap.size w W → Calls Try.prog 12 #[.slice A0 l0.length c0, .int .i64 0] W fun e w' => e = .returned (.int .i64 (atV l0 0)) ∧ W = w') := fun W hb => at_val A0 c0 l0 0 W (RdY.below h0 (HB0.out.trans (hb.mono HB0.out.size))) (by omega) hs
  have ha := atV_bd h0 0
  obtain ⟨a, ha9⟩ : ∃ a, a = atV l0 0 := ⟨_, rfl⟩
  rw [← ha9] at HAT ha
  obtain ⟨a0, a1⟩ := ha
  clear hB00 ha9
  -- the book's facts
  obtain ⟨hok, hlen, hown, hr1, hr2⟩ := hq
  have hbal := book_balance hok
  have hdr := book_drunk hok
  have hlv := book_level hok
  have hbb := book_bd hok
  have hps : psum b.evs 5 = b.drunk := by rw [psum_five, dall_five b.evs hown, hdr]
  have hpb := psum_bd hok
  have hd5 := hpb 5 (Nat.le_refl _)
  rw [hps] at hd5
  have v1 : evOn b.level b.room 1 a 0 = (b.level + min a (b.room - b.level), a, 0, a - min a (b.room - b.level), true) := ev_rain hlv.1 hlv.2.1 hlv.2.2.1 hlv.2.2.2 a0 (by omega)
  have v2 : evOn b.level b.room 2 b.level 9 = (b.level - b.level, 0, b.level, 0, true) := by rw [ev_drink hlv.1 hlv.2.1 hlv.2.2.1 hlv.2.2.2 hlv.1 (by omega) (by omega), if_pos (Int.le_refl _)]
  have v3 : evOn b.level b.room 2 (b.level + 1) 9 = (b.level, 0, 0, 0, false) := by rw [ev_drink hlv.1 hlv.2.1 hlv.2.2.1 hlv.2.2.2 (by omega) (by omega) (by omega), if_neg (by omega)]
  have hE1 := enter_book hok ⟨1, a, 0⟩ (by omega)
  simp only [v1, if_true] at hE1
  have hok1 := enter_ok hok ⟨1, a, 0⟩ (by omega) (by simp only [v1])
  have hst1 := strike_enter hok ⟨1, a, 0⟩ (by omega) (by simp only [v1])
  have hE2 := enter_book hok ⟨2, b.level, 9⟩ (by omega)
  simp only [v2, if_true] at hE2
  have hok2 := enter_ok hok ⟨2, b.level, 9⟩ (by omega) (by simp only [v2])
  have hE3 := enter_book hok ⟨2, b.level + 1, 9⟩ (by omega)
  simp only [v3, Bool.false_eq_true, if_false] at hE3
  have hbad := book_bad hok
  have hby9 : dby 9 (b.evs ++ [⟨2, b.level, 9⟩]) = b.level := by
    rw [dby_append, dby_none 9 b.evs (fun e he hx => by have := hown e he hx; omega)]; simp
  rw [hE1] at hok1 hst1
  rw [hE2] at hok2
  have hdb9 := drunkBy_eq hok2 9
  rw [hby9] at hdb9
  have hev4 := ev_leak hlv.1 hlv.2.1 hlv.2.2.1 hlv.2.2.2 hlv.1 (by omega)
  rw [if_pos (Int.le_refl _)] at hev4
  have HDB : Hid (∀ k, drunkBy b k = dby k b.evs) := fun k => drunkBy_eq hok k
  obtain ⟨room, start, evs, lv, ra, dr, lo⟩ := b
  simp only at hr hlen hown hr1 hr2 hbal hlv hbb hps hpb hd5 hE1 hok1 hst1 hE2 hok2 hE3 hbad hdb9 hev4 HDB ⊢
  obtain ⟨xl, hxl⟩ : ∃ xl, xl = lv + min a (room - lv) := ⟨_, rfl⟩
  obtain ⟨xo, hxo⟩ : ∃ xo, xo = lo + (a - min a (room - lv)) := ⟨_, rfl⟩
  rw [← hxl, ← hxo] at hE1 hok1 hst1
  have hrW : Hid (∀ W, Below w.heap.size w W → RdT W W.heap.size A c evs) := fun W hb => RdT.below hr hb
  have HOK : Hid (∀ W, Below w.heap.size w W → Calls Try.prog 10 #[.agg #[.int .i64 room, .int .i64 start, .slice A evs.length c, .int .i64 lv, .int .i64 ra, .int .i64 dr, .int .i64 lo]] W fun e w' => e = .returned (.bool true) ∧ Below W.heap.size W w') := fun W hb => by
    have := BookOk_any A c ⟨room, start, evs, lv, ra, dr, lo⟩ W (hrW.out W hb)
    rwa [hok] at this
  have HBAD : Hid (∀ W, Below w.heap.size w W → Calls Try.prog 10 #[.agg #[.int .i64 room, .int .i64 start, .slice A evs.length c, .int .i64 lv, .int .i64 ra, .int .i64 dr, .int .i64 (lo + 1)]] W fun e w' => e = .returned (.bool false) ∧ Below W.heap.size W w') := fun W hb => by
    have := BookOk_any A c ⟨room, start, evs, lv, ra, dr, lo + 1⟩ W (hrW.out W hb)
    rwa [hbad] at this
  have HDR : Hid (∀ (W : World) (k : Int), Below w.heap.size w W → Calls Try.prog 11 #[.agg #[.int .i64 room, .int .i64 start, .slice A evs.length c, .int .i64 lv, .int .i64 ra, .int .i64 dr, .int .i64 lo], .int .i64 k] W fun e w' => e = .returned (.int .i64 (dby k evs)) ∧ Below W.heap.size W w') := fun W k hb => by
    have := DrunkBy_any A c ⟨room, start, evs, lv, ra, dr, lo⟩ k W (hrW.out W hb)
    rwa [HDB.out k] at this
  have HX : Hid (∀ W, Below w.heap.size w W → Calls Try.prog 13 #[.agg #[.int .i64 room, .int .i64 start, .slice A evs.length c, .int .i64 lv, .int .i64 ra, .int .i64 dr, .int .i64 lo], .agg #[.int .i64 1, .int .i64 a, .int .i64 0]] W fun e w' => ∃ A' c', e = .returned (.tuple #[.agg #[.int .i64 room, .int .i64 start, .slice A' (evs.length + 1) c', .int .i64 xl, .int .i64 (ra + a), .int .i64 dr, .int .i64 xo], .bool true]) ∧ RdT w' w'.heap.size A' c' (evs ++ [⟨1, a, 0⟩]) ∧ Below W.heap.size W w') := fun W hb => by
    have := Enter_any A c ⟨room, start, evs, lv, ra, dr, lo⟩ 1 a 0 W (hrW.out W hb) (by simp only; omega)
    rw [hE1] at this
    refine this.mono ?_
    rintro e w' ⟨A', c', h1, h2, h3⟩
    refine ⟨A', c', ?_, Rd.of_own h2, h3⟩
    rw [h1]; simp [Bk.val]
  have HDD : Hid (∀ W, Below w.heap.size w W → Calls Try.prog 13 #[.agg #[.int .i64 room, .int .i64 start, .slice A evs.length c, .int .i64 lv, .int .i64 ra, .int .i64 dr, .int .i64 lo], .agg #[.int .i64 2, .int .i64 lv, .int .i64 9]] W fun e w' => ∃ A' c', e = .returned (.tuple #[.agg #[.int .i64 room, .int .i64 start, .slice A' (evs.length + 1) c', .int .i64 0, .int .i64 ra, .int .i64 (dr + lv), .int .i64 lo], .bool true]) ∧ RdT w' w'.heap.size A' c' (evs ++ [⟨2, lv, 9⟩]) ∧ Below W.heap.size W w') := fun W hb => by
    have := Enter_any A c ⟨room, start, evs, lv, ra, dr, lo⟩ 2 lv 9 W (hrW.out W hb) (by simp only; omega)
    rw [hE2] at this
    refine this.mono ?_
    rintro e w' ⟨A', c', h1, h2, h3⟩
    refine ⟨A', c', ?_, Rd.of_own h2, h3⟩
    rw [h1]; simp [Bk.val]
  have HNO : Hid (∀ W, Below w.heap.size w W → Calls Try.prog 13 #[.agg #[.int .i64 room, .int .i64 start, .slice A evs.length c, .int .i64 lv, .int .i64 ra, .int .i64 dr, .int .i64 lo], .agg #[.int .i64 2, .int .i64 (lv + 1), .int .i64 9]] W fun e w' => ∃ A' c', e = .returned (.tuple #[.agg #[.int .i64 room, .int .i64 start, .slice A' evs.length c', .int .i64 lv, .int .i64 ra, .int .i64 dr, .int .i64 lo], .bool false]) ∧ Below W.heap.size W w') := fun W hb => by
    have := Enter_any A c ⟨room, start, evs, lv, ra, dr, lo⟩ 2 (lv + 1) 9 W (hrW.out W hb) (by simp only; omega)
    rw [hE3] at this
    exact this.mono fun e w' ⟨A', c', h1, h2, h3⟩ => ⟨A', c', h1, h3⟩
  have HST : Hid (∀ (W : World) (A' : Option Addr) (c' : Nat), RdT W W.heap.size A' c' (evs ++ [⟨1, a, 0⟩]) → Calls Try.prog 14 #[.agg #[.int .i64 room, .int .i64 start, .slice A' (evs.length + 1) c', .int .i64 xl, .int .i64 (ra + a), .int .i64 dr, .int .i64 xo]] W fun e w' => ∃ A' c', e = .returned (.tuple #[.agg #[.int .i64 room, .int .i64 start, .slice A' evs.length c', .int .i64 lv, .int .i64 ra, .int .i64 dr, .int .i64 lo], .bool true]) ∧ Below W.heap.size W w') := fun W A' c' hr' => by
    have := Strike_any A' c' ⟨room, start, evs ++ [⟨1, a, 0⟩], xl, ra + a, dr, xo⟩ W hr' (by simp only [List.length_append, List.length_cons, List.length_nil]; omega)
    simp only [Int.add_zero] at hst1
    rw [hst1] at this
    have e9 : Bk.val ⟨room, start, evs ++ [⟨1, a, 0⟩], xl, ra + a, dr, xo⟩ A' c' = .agg #[.int .i64 room, .int .i64 start, .slice A' (evs.length + 1) c', .int .i64 xl, .int .i64 (ra + a), .int .i64 dr, .int .i64 xo] := by simp [Bk.val]
    rw [e9] at this
    exact this.mono fun e w' ⟨A'', c'', h1, h2, h3⟩ => ⟨A'', c'', h1, h3⟩
  have HXO : Hid (∀ (W : World) (A' : Option Addr) (c' : Nat), RdT W W.heap.size A' c' (evs ++ [⟨1, a, 0⟩]) → Calls Try.prog 10 #[.agg #[.int .i64 room, .int .i64 start, .slice A' (evs.length + 1) c', .int .i64 xl, .int .i64 (ra + a), .int .i64 dr, .int .i64 xo]] W fun e w' => e = .returned (.bool true) ∧ Below W.heap.size W w') := fun W A' c' hr' => by
    have := BookOk_any A' c' ⟨room, start, evs ++ [⟨1, a, 0⟩], xl, ra + a, dr, xo⟩ W hr'
    simp only [Int.add_zero] at hok1
    rw [hok1] at this
    have e9 : Bk.val ⟨room, start, evs ++ [⟨1, a, 0⟩], xl, ra + a, dr, xo⟩ A' c' = .agg #[.int .i64 room, .int .i64 start, .slice A' (evs.length + 1) c', .int .i64 xl, .int .i64 (ra + a), .int .i64 dr, .int .i64 xo] := by simp [Bk.val]
    rwa [e9] at this
  have HD9 : Hid (∀ (W : World) (A' : Option Addr) (c' : Nat), RdT W W.heap.size A' c' (evs ++ [⟨2, lv, 9⟩]) → Calls Try.prog 11 #[.agg #[.int .i64 room, .int .i64 start, .slice A' (evs.length + 1) c', .int .i64 0, .int .i64 ra, .int .i64 (dr + lv), .int .i64 lo], .int .i64 9] W fun e w' => e = .returned (.int .i64 lv) ∧ Below W.heap.size W w') := fun W A' c' hr' => by
    have := DrunkBy_any A' c' ⟨room, start, evs ++ [⟨2, lv, 9⟩], 0, ra, dr + lv, lo⟩ 9 W hr'
    simp only [Int.sub_self, Int.add_zero] at hdb9
    rw [hdb9] at this
    have e9 : Bk.val ⟨room, start, evs ++ [⟨2, lv, 9⟩], 0, ra, dr + lv, lo⟩ A' c' = .agg #[.int .i64 room, .int .i64 start, .slice A' (evs.length + 1) c', .int .i64 0, .int .i64 ra, .int .i64 (dr + lv), .int .i64 lo] := by simp [Bk.val]
    rwa [e9] at this
  have HEV : Hid (∀ W, Calls Try.prog 15 #[.int .i64 lv, .int .i64 room, .agg #[.int .i64 3, .int .i64 lv, .int .i64 0]] W fun e w' => e = .returned (.tuple #[.int .i64 0, .int .i64 0, .int .i64 0, .int .i64 lv, .bool true]) ∧ Below W.heap.size W w') := fun W => by
    have := EventOn_any lv room 3 lv 0 W
    rw [hev4] at this
    unfold evRet at this
    simpa using this
  have HPS := Lib.hid hps
  have HPB := Lib.hid hpb
  have HXL := Lib.hid hxl
  have hlo : -1000000000 ≤ lo ∧ lo ≤ 1000000000 := by omega
  have HBAL := Lib.hid hbal
  clear v1 v2 v3 hE1 hok1 hst1 hE2 hok2 hE3 hbad hdb9 hev4 hown hok hdr hby9 hps hpb hxl hxo hr HDB hrW
  have hB := Below.refl w.heap.size w
  go_wp2_with fail
  first | refine name_world ?_ | refine name_wp ?_
  intro W1 hW
  replace hB : Below w.heap.size w W1 := by rw [hW]; repeat' (first | (with_reducible exact Below.refl _ _) | (with_reducible assumption) | (with_reducible refine Below.alloc ?_ ?_ _) | (with_reducible refine Below.setCell ?_ ?_ _) | (with_reducible refine Below.drew ?_) | (with_reducible refine below_drewN ?_ _) | (refine Below.trans ?_ (Below.mono (by with_reducible assumption) ?_)) | omega | (simp; done) | (simp; omega))
  have hz_W1 : w.heap.size ≤ W1.heap.size := by rw [hW]; first | (simp; done) | (simp; omega)
  replace kb_b : Blk W1 (w.heap.size) 26 #[.int .i64 room, .int .i64 start, .slice A evs.length c, .int .i64 lv, .int .i64 ra, .int .i64 dr, .int .i64 lo] := by rw [hW]; repeat' (first | (with_reducible assumption) | (with_reducible refine Blk.drew ?_) | (with_reducible refine Blk.drewN ?_ _) | (with_reducible refine Blk.new' _ _ _ _ ?_; (first | rfl | omega | (simp; done))) | (with_reducible exact Blk.new _ _ _) | (with_reducible refine Blk.alloc ?_ _) | (with_reducible apply Blk.set8) | (with_reducible apply Blk.set7of8) | (with_reducible apply Blk.setlast8) | (with_reducible apply Blk.set7) | (with_reducible apply Blk.set2) | (with_reducible apply Blk.set3) | (with_reducible refine Blk.far ?_ ?_ _) | (simp; done) | (simp; omega) | (dsimp only; omega))
  have hLW1_b := kb_b.lt
  try clear kc_b kf_b
  clear hW
  refine (HOK.out _ hB).mono ?_
  rintro e w1 ⟨rfl, hb⟩
  replace hB := hB.trans (Below.mono hb hB.size)
  have hz_w1 : W1.heap.size ≤ w1.heap.size := Below.size hb
  replace kb_b := Blk.below kb_b hb (by first | exact kb_b.lt | (have := kb_b.lt; omega))
  have kc_b := kb_b.cells
  have kf_b := kb_b.frozens
  have hl_b := kb_b.lt
  have hn_b := Nat.ne_of_lt kb_b.lt
  clear hb
  have hbal2 := HBAL.out
  go_wp2_with fail
  have K1 := Lib.hid kb_b
  have HB1 := Lib.hid hB
  clear kb_b kc_b kf_b hB hbal2 hbal
  go_loopw [4, 5] (fun acc i wr => ∃ k : Nat, k ≤ 5 ∧ i = .int .i64 ((k + 1 : Nat) : Int) ∧ acc = .int .i64 (psum evs k) ∧ Hid (Below w.heap.size w wr) ∧ Hid (Blk wr w.heap.size 26 #[.int .i64 room, .int .i64 start, .slice A evs.length c, .int .i64 lv, .int .i64 ra, .int .i64 dr, .int .i64 lo])) (fun _ i _ => 6 - (intOf i).toNat)
  case atStart => exact ⟨0, Nat.zero_le _, rfl, rfl, HB1, K1⟩
  case round =>
    obtain ⟨k, hk, rfl, rfl, HBW, HKW⟩ := hrel
    clear HB1 K1
    have kb_b := HKW.out
    have hB := HBW.out
    have kc_b := kb_b.cells
    have kf_b := kb_b.frozens
    have hl_b := kb_b.lt
    have hn_b := Nat.ne_of_lt hl_b
    have hpk := HPB.out k hk
    by_cases hlt : k < 5
    · have hki : ((k + 1 : Nat) : Int) ≤ 5 := by omega
      have hpk1 := HPB.out (k + 1) (by omega)
      have HPN := Lib.hid (psum_succ evs k)
      rw [HPN.out] at hpk1
      go_wp2_with fail
      refine (HDR.out _ _ hB).mono ?_
      rintro e w2 ⟨rfl, hb⟩
      replace hB := hB.trans (Below.mono hb hB.size)
      have hz_w2 : wr.heap.size ≤ w2.heap.size := Below.size hb
      replace kb_b := Blk.below kb_b hb (by first | exact kb_b.lt | (have := kb_b.lt; omega))
      have kc_b := kb_b.cells
      have kf_b := kb_b.frozens
      have hl_b := kb_b.lt
      have hn_b := Nat.ne_of_lt kb_b.lt
      clear hb
      go_wp2_with fail
      go_roundw
      case rel => exact ⟨k + 1, by omega, by go_num, by rw [HPN.out]; push_cast; push_cast at hpk1; rw [wrap_in (by omega) (by omega)], hB, kb_b⟩
      case measure => simp [intOf]; omega
    · obtain rfl : k = 5 := by omega
      rw [HPS.out]
      clear HKW HBW hpk hlt hk
      have he40 : (evs.length : Int) < 40 := by omega
      have d40 : decide ((evs.length : Int) < 40) = true := decide_eq_true he40
      go_wp2_with fail
      refine (HAT.out _ hB).mono ?_
      rintro e w2 ⟨rfl, rfl⟩
      go_wp2_with fail
      first | refine name_world ?_ | refine name_wp ?_
      intro W3 hW
      replace hB : Below w.heap.size w W3 := by rw [hW]; repeat' (first | (with_reducible exact Below.refl _ _) | (with_reducible assumption) | (with_reducible refine Below.alloc ?_ ?_ _) | (with_reducible refine Below.setCell ?_ ?_ _) | (with_reducible refine Below.drew ?_) | (with_reducible refine below_drewN ?_ _) | (refine Below.trans ?_ (Below.mono (by with_reducible assumption) ?_)) | omega | (simp; done) | (simp; omega))
      have hz_W3 : wr.heap.size ≤ W3.heap.size := by rw [hW]; first | (simp; done) | (simp; omega)
      replace kb_b : Blk W3 (w.heap.size) 26 #[.int .i64 room, .int .i64 start, .slice A evs.length c, .int .i64 lv, .int .i64 ra, .int .i64 dr, .int .i64 lo] := by rw [hW]; repeat' (first | (with_reducible assumption) | (with_reducible refine Blk.drew ?_) | (with_reducible refine Blk.drewN ?_ _) | (with_reducible refine Blk.new' _ _ _ _ ?_; (first | rfl | omega | (simp; done))) | (with_reducible exact Blk.new _ _ _) | (with_reducible refine Blk.alloc ?_ _) | (with_reducible apply Blk.set8) | (with_reducible apply Blk.set7of8) | (with_reducible apply Blk.setlast8) | (with_reducible apply Blk.set7) | (with_reducible apply Blk.set2) | (with_reducible apply Blk.set3) | (with_reducible refine Blk.far ?_ ?_ _) | (simp; done) | (simp; omega) | (dsimp only; omega))
      have hLW3_b := kb_b.lt
      try clear kc_b kf_b
      clear hW
      refine (HX.out _ hB).mono ?_
      rintro e w4 ⟨A4, c4, rfl, hx4, hb⟩
      have HX4 := Lib.hid hx4
      clear hx4
      replace hB := hB.trans (Below.mono hb hB.size)
      have hz_w4 : W3.heap.size ≤ w4.heap.size := Below.size hb
      replace kb_b := Blk.below kb_b hb (by first | exact kb_b.lt | (have := kb_b.lt; omega))
      have kc_b := kb_b.cells
      have kf_b := kb_b.frozens
      have hl_b := kb_b.lt
      have hn_b := Nat.ne_of_lt kb_b.lt
      clear hb
      go_wp2_with fail
      first | refine name_world ?_ | refine name_wp ?_
      intro W5 hW
      replace hB : Below w.heap.size w W5 := by rw [hW]; repeat' (first | (with_reducible exact Below.refl _ _) | (with_reducible assumption) | (with_reducible refine Below.alloc ?_ ?_ _) | (with_reducible refine Below.setCell ?_ ?_ _) | (with_reducible refine Below.drew ?_) | (with_reducible refine below_drewN ?_ _) | (refine Below.trans ?_ (Below.mono (by with_reducible assumption) ?_)) | omega | (simp; done) | (simp; omega))
      have hp_W5 : Below w4.heap.size w4 W5 := by rw [hW]; repeat' (first | (with_reducible exact Below.refl _ _) | (with_reducible assumption) | (with_reducible refine Below.alloc ?_ ?_ _) | (with_reducible refine Below.setCell ?_ ?_ _) | (with_reducible refine Below.drew ?_) | (with_reducible refine below_drewN ?_ _) | (refine Below.trans ?_ (Below.mono (by with_reducible assumption) ?_)) | omega | (simp; done) | (simp; omega))
      have hz_W5 : w4.heap.size ≤ W5.heap.size := by rw [hW]; first | (simp; done) | (simp; omega)
      replace kb_b : Blk W5 (w.heap.size) 26 #[.int .i64 room, .int .i64 start, .slice A evs.length c, .int .i64 lv, .int .i64 ra, .int .i64 dr, .int .i64 lo] := by rw [hW]; repeat' (first | (with_reducible assumption) | (with_reducible refine Blk.drew ?_) | (with_reducible refine Blk.drewN ?_ _) | (with_reducible refine Blk.new' _ _ _ _ ?_; (first | rfl | omega | (simp; done))) | (with_reducible exact Blk.new _ _ _) | (with_reducible refine Blk.alloc ?_ _) | (with_reducible apply Blk.set8) | (with_reducible apply Blk.set7of8) | (with_reducible apply Blk.setlast8) | (with_reducible apply Blk.set7) | (with_reducible apply Blk.set2) | (with_reducible apply Blk.set3) | (with_reducible refine Blk.far ?_ ?_ _) | (simp; done) | (simp; omega) | (dsimp only; omega))
      have hLW5_b := kb_b.lt
      replace kb_x : Blk W5 (w4.heap.size) 26 #[.int .i64 room, .int .i64 start, .slice A4 (evs.length + 1) c4, .int .i64 xl, .int .i64 (ra + a), .int .i64 dr, .int .i64 xo] := by rw [hW]; repeat' (first | (with_reducible assumption) | (with_reducible refine Blk.drew ?_) | (with_reducible refine Blk.drewN ?_ _) | (with_reducible refine Blk.new' _ _ _ _ ?_; (first | rfl | omega | (simp; done))) | (with_reducible exact Blk.new _ _ _) | (with_reducible refine Blk.alloc ?_ _) | (with_reducible apply Blk.set8) | (with_reducible apply Blk.set7of8) | (with_reducible apply Blk.setlast8) | (with_reducible apply Blk.set7) | (with_reducible apply Blk.set2) | (with_reducible apply Blk.set3) | (with_reducible refine Blk.far ?_ ?_ _) | (simp; done) | (simp; omega) | (dsimp only; omega))
      have hLW5_x := kb_x.lt
      try clear kc_b kf_b
      try clear kc_x kf_x
      clear hW
      have HX5 := Lib.hid (RdT.below HX4.out hp_W5)
      clear HX4 hp_W5
      refine (HST.out _ _ _ HX5.out).mono ?_
      rintro e w6 ⟨A6, c6, rfl, hb⟩
      have HX6 := Lib.hid (RdT.below HX5.out hb)
      clear HX5
      replace hB := hB.trans (Below.mono hb hB.size)
      have hz_w6 : W5.heap.size ≤ w6.heap.size := Below.size hb
      replace kb_b := Blk.below kb_b hb (by first | exact kb_b.lt | (have := kb_b.lt; omega))
      have kc_b := kb_b.cells
      have kf_b := kb_b.frozens
      have hl_b := kb_b.lt
      have hn_b := Nat.ne_of_lt kb_b.lt
      replace kb_x := Blk.below kb_x hb (by first | exact kb_x.lt | (have := kb_x.lt; omega))
      have kc_x := kb_x.cells
      have kf_x := kb_x.frozens
      have hl_x := kb_x.lt
      have hn_x := Nat.ne_of_lt kb_x.lt
      clear hb
      go_wp2_with fail
      first | refine name_world ?_ | refine name_wp ?_
      intro W7 hW
      replace hB : Below w.heap.size w W7 := by rw [hW]; repeat' (first | (with_reducible exact Below.refl _ _) | (with_reducible assumption) | (with_reducible refine Below.alloc ?_ ?_ _) | (with_reducible refine Below.setCell ?_ ?_ _) | (with_reducible refine Below.drew ?_) | (with_reducible refine below_drewN ?_ _) | (refine Below.trans ?_ (Below.mono (by with_reducible assumption) ?_)) | omega | (simp; done) | (simp; omega))
      have hp_W7 : Below w6.heap.size w6 W7 := by rw [hW]; repeat' (first | (with_reducible exact Below.refl _ _) | (with_reducible assumption) | (with_reducible refine Below.alloc ?_ ?_ _) | (with_reducible refine Below.setCell ?_ ?_ _) | (with_reducible refine Below.drew ?_) | (with_reducible refine below_drewN ?_ _) | (refine Below.trans ?_ (Below.mono (by with_reducible assumption) ?_)) | omega | (simp; done) | (simp; omega))
      have hz_W7 : w6.heap.size ≤ W7.heap.size := by rw [hW]; first | (simp; done) | (simp; omega)
      replace kb_b : Blk W7 (w.heap.size) 26 #[.int .i64 room, .int .i64 start, .slice A evs.length c, .int .i64 lv, .int .i64 ra, .int .i64 dr, .int .i64 lo] := by rw [hW]; repeat' (first | (with_reducible assumption) | (with_reducible refine Blk.drew ?_) | (with_reducible refine Blk.drewN ?_ _) | (with_reducible refine Blk.new' _ _ _ _ ?_; (first | rfl | omega | (simp; done))) | (with_reducible exact Blk.new _ _ _) | (with_reducible refine Blk.alloc ?_ _) | (with_reducible apply Blk.set8) | (with_reducible apply Blk.set7of8) | (with_reducible apply Blk.setlast8) | (with_reducible apply Blk.set7) | (with_reducible apply Blk.set2) | (with_reducible apply Blk.set3) | (with_reducible refine Blk.far ?_ ?_ _) | (simp; done) | (simp; omega) | (dsimp only; omega))
      have hLW7_b := kb_b.lt
      replace kb_x : Blk W7 (w4.heap.size) 26 #[.int .i64 room, .int .i64 start, .slice A4 (evs.length + 1) c4, .int .i64 xl, .int .i64 (ra + a), .int .i64 dr, .int .i64 xo] := by rw [hW]; repeat' (first | (with_reducible assumption) | (with_reducible refine Blk.drew ?_) | (with_reducible refine Blk.drewN ?_ _) | (with_reducible refine Blk.new' _ _ _ _ ?_; (first | rfl | omega | (simp; done))) | (with_reducible exact Blk.new _ _ _) | (with_reducible refine Blk.alloc ?_ _) | (with_reducible apply Blk.set8) | (with_reducible apply Blk.set7of8) | (with_reducible apply Blk.setlast8) | (with_reducible apply Blk.set7) | (with_reducible apply Blk.set2) | (with_reducible apply Blk.set3) | (with_reducible refine Blk.far ?_ ?_ _) | (simp; done) | (simp; omega) | (dsimp only; omega))
      have hLW7_x := kb_x.lt
      replace kb_y : Blk W7 (w6.heap.size) 26 #[.int .i64 room, .int .i64 start, .slice A6 evs.length c6, .int .i64 lv, .int .i64 ra, .int .i64 dr, .int .i64 lo] := by rw [hW]; repeat' (first | (with_reducible assumption) | (with_reducible refine Blk.drew ?_) | (with_reducible refine Blk.drewN ?_ _) | (with_reducible refine Blk.new' _ _ _ _ ?_; (first | rfl | omega | (simp; done))) | (with_reducible exact Blk.new _ _ _) | (with_reducible refine Blk.alloc ?_ _) | (with_reducible apply Blk.set8) | (with_reducible apply Blk.set7of8) | (with_reducible apply Blk.setlast8) | (with_reducible apply Blk.set7) | (with_reducible apply Blk.set2) | (with_reducible apply Blk.set3) | (with_reducible refine Blk.far ?_ ?_ _) | (simp; done) | (simp; omega) | (dsimp only; omega))
      have hLW7_y := kb_y.lt
      try clear kc_b kf_b
      try clear kc_x kf_x
      try clear kc_y kf_y
      clear hW
      have HX7 := Lib.hid (RdT.below HX6.out hp_W7)
      clear HX6 hp_W7
      by_cases g : lv + a < room
      · obtain rfl : xl = lv + a := by rw [HXL.out]; omega
        clear HXL
        have f_b : ∀ (z : NewW W7) (i : Nat), z.w.cell? ⟨w.heap.size, i, none⟩ = #[.int .i64 room, .int .i64 start, .slice A evs.length c, .int .i64 lv, .int .i64 ra, .int .i64 dr, .int .i64 lo][i]? := fun z i => (kb_b.newW z).cells i
        have f_x : ∀ (z : NewW W7) (i : Nat), z.w.cell? ⟨w4.heap.size, i, none⟩ = #[.int .i64 room, .int .i64 start, .slice A4 (evs.length + 1) c4, .int .i64 (lv + a), .int .i64 (ra + a), .int .i64 dr, .int .i64 xo][i]? := fun z i => (kb_x.newW z).cells i
        have f_y : ∀ (z : NewW W7) (i : Nat), z.w.cell? ⟨w6.heap.size, i, none⟩ = #[.int .i64 room, .int .i64 start, .slice A6 evs.length c6, .int .i64 lv, .int .i64 ra, .int .i64 dr, .int .i64 lo][i]? := fun z i => (kb_y.newW z).cells i
        have hw1 : IntKind.i64.wrap (ra + a) = ra + a := IntWalk.i64_in _ (by omega)
        have hw2 : IntKind.i64.wrap (lv + a) = lv + a := IntWalk.i64_in _ (by omega)
        go_wp2_with fail
        refine wp_region_new (by kernel_rfl) (by kernel_rfl) ?_
        repeat (go_big_quiet_step (first | (go_at_call 12; exact NewW.same (HAT.out _ (hB.trans (Below.mono (NewW.h _) hB.size)))) | (go_at_call 10; exact NewW.call (HXO.out _ _ _ (Rd.newW HX7.out _)))))
        refine wpQuiet_nil ?_
        intro w8 hw'
        obtain ⟨hx, hw''⟩ := hw'
        have hb8 := hx.h
        rw [← hw''] at hb8
        clear hw'' hx
        clear f_b f_x f_y hw1 hw2 HX7
        replace hB := hB.trans (Below.mono hb8 hB.size)
        have hz_w8 : W7.heap.size ≤ w8.heap.size := Below.size hb8
        replace kb_b := Blk.below kb_b hb8 (by first | exact kb_b.lt | (have := kb_b.lt; omega))
        have kc_b := kb_b.cells
        have kf_b := kb_b.frozens
        have hl_b := kb_b.lt
        have hn_b := Nat.ne_of_lt kb_b.lt
        clear hb8
        go_wp2_with fail
        refine (HDD.out _ hB).mono ?_
        rintro e w9 ⟨A8, c8, rfl, hd9, hb⟩
        have HD9r := Lib.hid hd9
        clear hd9
        replace hB := hB.trans (Below.mono hb hB.size)
        have hz_w9 : w8.heap.size ≤ w9.heap.size := Below.size hb
        replace kb_b := Blk.below kb_b hb (by first | exact kb_b.lt | (have := kb_b.lt; omega))
        have kc_b := kb_b.cells
        have kf_b := kb_b.frozens
        have hl_b := kb_b.lt
        have hn_b := Nat.ne_of_lt kb_b.lt
        clear hb
        go_wp2_with fail
        first | refine name_world ?_ | refine name_wp ?_
        intro W10 hW
        replace hB : Below w.heap.size w W10 := by rw [hW]; repeat' (first | (with_reducible exact Below.refl _ _) | (with_reducible assumption) | (with_reducible refine Below.alloc ?_ ?_ _) | (with_reducible refine Below.setCell ?_ ?_ _) | (with_reducible refine Below.drew ?_) | (with_reducible refine below_drewN ?_ _) | (refine Below.trans ?_ (Below.mono (by with_reducible assumption) ?_)) | omega | (simp; done) | (simp; omega))
        have hp_W10 : Below w9.heap.size w9 W10 := by rw [hW]; repeat' (first | (with_reducible exact Below.refl _ _) | (with_reducible assumption) | (with_reducible refine Below.alloc ?_ ?_ _) | (with_reducible refine Below.setCell ?_ ?_ _) | (with_reducible refine Below.drew ?_) | (with_reducible refine below_drewN ?_ _) | (refine Below.trans ?_ (Below.mono (by with_reducible assumption) ?_)) | omega | (simp; done) | (simp; omega))
        have hz_W10 : w9.heap.size ≤ W10.heap.size := by rw [hW]; first | (simp; done) | (simp; omega)
        replace kb_b : Blk W10 (w.heap.size) 26 #[.int .i64 room, .int .i64 start, .slice A evs.length c, .int .i64 lv, .int .i64 ra, .int .i64 dr, .int .i64 lo] := by rw [hW]; repeat' (first | (with_reducible assumption) | (with_reducible refine Blk.drew ?_) | (with_reducible refine Blk.drewN ?_ _) | (with_reducible refine Blk.new' _ _ _ _ ?_; (first | rfl | omega | (simp; done))) | (with_reducible exact Blk.new _ _ _) | (with_reducible refine Blk.alloc ?_ _) | (with_reducible apply Blk.set8) | (with_reducible apply Blk.set7of8) | (with_reducible apply Blk.setlast8) | (with_reducible apply Blk.set7) | (with_reducible apply Blk.set2) | (with_reducible apply Blk.set3) | (with_reducible refine Blk.far ?_ ?_ _) | (simp; done) | (simp; omega) | (dsimp only; omega))
        have hLW10_b := kb_b.lt
        replace kb_d : Blk W10 (w9.heap.size) 26 #[.int .i64 room, .int .i64 start, .slice A8 (evs.length + 1) c8, .int .i64 0, .int .i64 ra, .int .i64 (dr + lv), .int .i64 lo] := by rw [hW]; repeat' (first | (with_reducible assumption) | (with_reducible refine Blk.drew ?_) | (with_reducible refine Blk.drewN ?_ _) | (with_reducible refine Blk.new' _ _ _ _ ?_; (first | rfl | omega | (simp; done))) | (with_reducible exact Blk.new _ _ _) | (with_reducible refine Blk.alloc ?_ _) | (with_reducible apply Blk.set8) | (with_reducible apply Blk.set7of8) | (with_reducible apply Blk.setlast8) | (with_reducible apply Blk.set7) | (with_reducible apply Blk.set2) | (with_reducible apply Blk.set3) | (with_reducible refine Blk.far ?_ ?_ _) | (simp; done) | (simp; omega) | (dsimp only; omega))
        have hLW10_d := kb_d.lt
        try clear kc_b kf_b
        try clear kc_d kf_d
        clear hW
        have HD10 := Lib.hid (RdT.below HD9r.out hp_W10)
        clear HD9r hp_W10
        refine (HNO.out _ hB).mono ?_
        rintro e w11 ⟨A11, c11, rfl, hb⟩
        have HD11 := Lib.hid (RdT.below HD10.out hb)
        clear HD10
        replace hB := hB.trans (Below.mono hb hB.size)
        have hz_w11 : W10.heap.size ≤ w11.heap.size := Below.size hb
        replace kb_b := Blk.below kb_b hb (by first | exact kb_b.lt | (have := kb_b.lt; omega))
        have kc_b := kb_b.cells
        have kf_b := kb_b.frozens
        have hl_b := kb_b.lt
        have hn_b := Nat.ne_of_lt kb_b.lt
        replace kb_d := Blk.below kb_d hb (by first | exact kb_d.lt | (have := kb_d.lt; omega))
        have kc_d := kb_d.cells
        have kf_d := kb_d.frozens
        have hl_d := kb_d.lt
        have hn_d := Nat.ne_of_lt kb_d.lt
        clear hb
        go_wp2_with fail
        first | refine name_world ?_ | refine name_wp ?_
        intro W12 hW
        replace hB : Below w.heap.size w W12 := by rw [hW]; repeat' (first | (with_reducible exact Below.refl _ _) | (with_reducible assumption) | (with_reducible refine Below.alloc ?_ ?_ _) | (with_reducible refine Below.setCell ?_ ?_ _) | (with_reducible refine Below.drew ?_) | (with_reducible refine below_drewN ?_ _) | (refine Below.trans ?_ (Below.mono (by with_reducible assumption) ?_)) | omega | (simp; done) | (simp; omega))
        have hp_W12 : Below w11.heap.size w11 W12 := by rw [hW]; repeat' (first | (with_reducible exact Below.refl _ _) | (with_reducible assumption) | (with_reducible refine Below.alloc ?_ ?_ _) | (with_reducible refine Below.setCell ?_ ?_ _) | (with_reducible refine Below.drew ?_) | (with_reducible refine below_drewN ?_ _) | (refine Below.trans ?_ (Below.mono (by with_reducible assumption) ?_)) | omega | (simp; done) | (simp; omega))
        have hz_W12 : w11.heap.size ≤ W12.heap.size := by rw [hW]; first | (simp; done) | (simp; omega)
        replace kb_b : Blk W12 (w.heap.size) 26 #[.int .i64 room, .int .i64 start, .slice A evs.length c, .int .i64 lv, .int .i64 ra, .int .i64 dr, .int .i64 lo] := by rw [hW]; repeat' (first | (with_reducible assumption) | (with_reducible refine Blk.drew ?_) | (with_reducible refine Blk.drewN ?_ _) | (with_reducible refine Blk.new' _ _ _ _ ?_; (first | rfl | omega | (simp; done))) | (with_reducible exact Blk.new _ _ _) | (with_reducible refine Blk.alloc ?_ _) | (with_reducible apply Blk.set8) | (with_reducible apply Blk.set7of8) | (with_reducible apply Blk.setlast8) | (with_reducible apply Blk.set7) | (with_reducible apply Blk.set2) | (with_reducible apply Blk.set3) | (with_reducible refine Blk.far ?_ ?_ _) | (simp; done) | (simp; omega) | (dsimp only; omega))
        have hLW12_b := kb_b.lt
        replace kb_d : Blk W12 (w9.heap.size) 26 #[.int .i64 room, .int .i64 start, .slice A8 (evs.length + 1) c8, .int .i64 0, .int .i64 ra, .int .i64 (dr + lv), .int .i64 lo] := by rw [hW]; repeat' (first | (with_reducible assumption) | (with_reducible refine Blk.drew ?_) | (with_reducible refine Blk.drewN ?_ _) | (with_reducible refine Blk.new' _ _ _ _ ?_; (first | rfl | omega | (simp; done))) | (with_reducible exact Blk.new _ _ _) | (with_reducible refine Blk.alloc ?_ _) | (with_reducible apply Blk.set8) | (with_reducible apply Blk.set7of8) | (with_reducible apply Blk.setlast8) | (with_reducible apply Blk.set7) | (with_reducible apply Blk.set2) | (with_reducible apply Blk.set3) | (with_reducible refine Blk.far ?_ ?_ _) | (simp; done) | (simp; omega) | (dsimp only; omega))
        have hLW12_d := kb_d.lt
        try clear kc_b kf_b
        try clear kc_d kf_d
        clear hW
        have HD12 := Lib.hid (RdT.below HD11.out hp_W12)
        clear HD11 hp_W12
        refine (HEV.out _).mono ?_
        rintro e w13 ⟨rfl, hb⟩
        have HD13 := Lib.hid (RdT.below HD12.out hb)
        clear HD12
        replace hB := hB.trans (Below.mono hb hB.size)
        have hz_w13 : W12.heap.size ≤ w13.heap.size := Below.size hb
        replace kb_b := Blk.below kb_b hb (by first | exact kb_b.lt | (have := kb_b.lt; omega))
        have kc_b := kb_b.cells
        have kf_b := kb_b.frozens
        have hl_b := kb_b.lt
        have hn_b := Nat.ne_of_lt kb_b.lt
        replace kb_d := Blk.below kb_d hb (by first | exact kb_d.lt | (have := kb_d.lt; omega))
        have kc_d := kb_d.cells
        have kf_d := kb_d.frozens
        have hl_d := kb_d.lt
        have hn_d := Nat.ne_of_lt kb_d.lt
        clear hb
        go_wp2_with fail
        first | refine name_world ?_ | refine name_wp ?_
        intro W14 hW
        replace hB : Below w.heap.size w W14 := by rw [hW]; repeat' (first | (with_reducible exact Below.refl _ _) | (with_reducible assumption) | (with_reducible refine Below.alloc ?_ ?_ _) | (with_reducible refine Below.setCell ?_ ?_ _) | (with_reducible refine Below.drew ?_) | (with_reducible refine below_drewN ?_ _) | (refine Below.trans ?_ (Below.mono (by with_reducible assumption) ?_)) | omega | (simp; done) | (simp; omega))
        have hp_W14 : Below w13.heap.size w13 W14 := by rw [hW]; repeat' (first | (with_reducible exact Below.refl _ _) | (with_reducible assumption) | (with_reducible refine Below.alloc ?_ ?_ _) | (with_reducible refine Below.setCell ?_ ?_ _) | (with_reducible refine Below.drew ?_) | (with_reducible refine below_drewN ?_ _) | (refine Below.trans ?_ (Below.mono (by with_reducible assumption) ?_)) | omega | (simp; done) | (simp; omega))
        have HD14 := Lib.hid (RdT.below HD13.out hp_W14)
        replace kb_b : Blk W14 w.heap.size 26 #[.int .i64 room, .int .i64 start, .slice A evs.length c, .int .i64 lv, .int .i64 ra, .int .i64 dr, .int .i64 lo] := by rw [hW]; repeat' (first | (with_reducible assumption) | (with_reducible refine Blk.drew ?_) | (with_reducible refine Blk.drewN ?_ _) | (with_reducible refine Blk.new' _ _ _ _ ?_; (first | rfl | omega | (simp; done))) | (with_reducible exact Blk.new _ _ _) | (with_reducible refine Blk.alloc ?_ _) | (with_reducible apply Blk.set8) | (with_reducible apply Blk.set7of8) | (with_reducible apply Blk.setlast8) | (with_reducible apply Blk.set7) | (with_reducible apply Blk.set2) | (with_reducible apply Blk.set3) | (with_reducible refine Blk.far ?_ ?_ _) | (simp; done) | (simp; omega) | (dsimp only; omega))
        replace kb_d : Blk W14 w9.heap.size 26 #[.int .i64 room, .int .i64 start, .slice A8 (evs.length + 1) c8, .int .i64 0, .int .i64 ra, .int .i64 (dr + lv), .int .i64 lo] := by rw [hW]; repeat' (first | (with_reducible assumption) | (with_reducible refine Blk.drew ?_) | (with_reducible refine Blk.drewN ?_ _) | (with_reducible refine Blk.new' _ _ _ _ ?_; (first | rfl | omega | (simp; done))) | (with_reducible exact Blk.new _ _ _) | (with_reducible refine Blk.alloc ?_ _) | (with_reducible apply Blk.set8) | (with_reducible apply Blk.set7of8) | (with_reducible apply Blk.setlast8) | (with_reducible apply Blk.set7) | (with_reducible apply Blk.set2) | (with_reducible apply Blk.set3) | (with_reducible refine Blk.far ?_ ?_ _) | (simp; done) | (simp; omega) | (dsimp only; omega))
        have kb_q : Blk W14 w13.heap.size 26 #[.int .i64 room, .int .i64 start, .slice A evs.length c, .int .i64 lv, .int .i64 ra, .int .i64 dr, .int .i64 (lo + 1)] := by rw [hW]; repeat' (first | (with_reducible assumption) | (with_reducible refine Blk.drew ?_) | (with_reducible refine Blk.drewN ?_ _) | (with_reducible refine Blk.new' _ _ _ _ ?_; (first | rfl | omega | (simp; done))) | (with_reducible exact Blk.new _ _ _) | (with_reducible refine Blk.alloc ?_ _) | (with_reducible apply Blk.set8) | (with_reducible apply Blk.set7of8) | (with_reducible apply Blk.setlast8) | (with_reducible apply Blk.set7) | (with_reducible apply Blk.set2) | (with_reducible apply Blk.set3) | (with_reducible refine Blk.far ?_ ?_ _) | (simp; done) | (simp; omega) | (dsimp only; omega))
        clear hW kc_b kf_b kc_d kf_d HD13 hp_W14
        have f_b : ∀ (z : NewW W14) (i : Nat), z.w.cell? ⟨w.heap.size, i, none⟩ = #[.int .i64 room, .int .i64 start, .slice A evs.length c, .int .i64 lv, .int .i64 ra, .int .i64 dr, .int .i64 lo][i]? := fun z i => (kb_b.newW z).cells i
        have f_d : ∀ (z : NewW W14) (i : Nat), z.w.cell? ⟨w9.heap.size, i, none⟩ = #[.int .i64 room, .int .i64 start, .slice A8 (evs.length + 1) c8, .int .i64 0, .int .i64 ra, .int .i64 (dr + lv), .int .i64 lo][i]? := fun z i => (kb_d.newW z).cells i
        have f_q : ∀ (z : NewW W14) (i : Nat), z.w.cell? ⟨w13.heap.size, i, none⟩ = #[.int .i64 room, .int .i64 start, .slice A evs.length c, .int .i64 lv, .int .i64 ra, .int .i64 dr, .int .i64 (lo + 1)][i]? := fun z i => (kb_q.newW z).cells i
        refine wp_region_new (by kernel_rfl) (by kernel_rfl) ?_
        repeat (go_big_quiet_step (first | (go_at_call 11; exact NewW.call (HD9.out _ _ _ (Rd.newW HD14.out _))) | (go_at_call 10; exact NewW.call (HBAD.out _ (hB.trans (Below.mono (NewW.h _) hB.size))))))
        refine wpQuiet_nil ?_
        intro w15 hw'
        obtain ⟨hx, hw''⟩ := hw'
        have hb15 := hx.h
        rw [← hw''] at hb15
        clear hw'' hx
        clear f_b f_d f_q
        replace hB := hB.trans (Below.mono hb15 hB.size)
        have hz_w15 : W14.heap.size ≤ w15.heap.size := Below.size hb15
        clear hb15
        go_wp2_with fail
        go_ret
        exact ⟨rfl, HB0.out.trans (hB.mono HB0.out.size)⟩
      · have hxr : xl = room := by rw [HXL.out]; omega
        clear HXL
        subst xl
        have f_b : ∀ (z : NewW W7) (i : Nat), z.w.cell? ⟨w.heap.size, i, none⟩ = #[.int .i64 room, .int .i64 start, .slice A evs.length c, .int .i64 lv, .int .i64 ra, .int .i64 dr, .int .i64 lo][i]? := fun z i => (kb_b.newW z).cells i
        have f_x : ∀ (z : NewW W7) (i : Nat), z.w.cell? ⟨w4.heap.size, i, none⟩ = #[.int .i64 room, .int .i64 start, .slice A4 (evs.length + 1) c4, .int .i64 room, .int .i64 (ra + a), .int .i64 dr, .int .i64 xo][i]? := fun z i => (kb_x.newW z).cells i
        have f_y : ∀ (z : NewW W7) (i : Nat), z.w.cell? ⟨w6.heap.size, i, none⟩ = #[.int .i64 room, .int .i64 start, .slice A6 evs.length c6, .int .i64 lv, .int .i64 ra, .int .i64 dr, .int .i64 lo][i]? := fun z i => (kb_y.newW z).cells i
        have hw1 : IntKind.i64.wrap (ra + a) = ra + a := IntWalk.i64_in _ (by omega)
        have hw2 : IntKind.i64.wrap (lv + a) = lv + a := IntWalk.i64_in _ (by omega)
        go_wp2_with fail
        refine wp_region_new (by kernel_rfl) (by kernel_rfl) ?_
        repeat (go_big_quiet_step (first | (go_at_call 12; exact NewW.same (HAT.out _ (hB.trans (Below.mono (NewW.h _) hB.size)))) | (go_at_call 10; exact NewW.call (HXO.out _ _ _ (Rd.newW HX7.out _)))))
        refine wpQuiet_nil ?_
        intro w8 hw'
        obtain ⟨hx, hw''⟩ := hw'
        have hb8 := hx.h
        rw [← hw''] at hb8
        clear hw'' hx
        clear f_b f_x f_y hw1 hw2 HX7
        replace hB := hB.trans (Below.mono hb8 hB.size)
        have hz_w8 : W7.heap.size ≤ w8.heap.size := Below.size hb8
        replace kb_b := Blk.below kb_b hb8 (by first | exact kb_b.lt | (have := kb_b.lt; omega))
        have kc_b := kb_b.cells
        have kf_b := kb_b.frozens
        have hl_b := kb_b.lt
        have hn_b := Nat.ne_of_lt kb_b.lt
        clear hb8
        go_wp2_with fail
        refine (HDD.out _ hB).mono ?_
        rintro e w9 ⟨A8, c8, rfl, hd9, hb⟩
        have HD9r := Lib.hid hd9
        clear hd9
        replace hB := hB.trans (Below.mono hb hB.size)
        have hz_w9 : w8.heap.size ≤ w9.heap.size := Below.size hb
        replace kb_b := Blk.below kb_b hb (by first | exact kb_b.lt | (have := kb_b.lt; omega))
        have kc_b := kb_b.cells
        have kf_b := kb_b.frozens
        have hl_b := kb_b.lt
        have hn_b := Nat.ne_of_lt kb_b.lt
        clear hb
        go_wp2_with fail
        first | refine name_world ?_ | refine name_wp ?_
        intro W10 hW
        replace hB : Below w.heap.size w W10 := by rw [hW]; repeat' (first | (with_reducible exact Below.refl _ _) | (with_reducible assumption) | (with_reducible refine Below.alloc ?_ ?_ _) | (with_reducible refine Below.setCell ?_ ?_ _) | (with_reducible refine Below.drew ?_) | (with_reducible refine below_drewN ?_ _) | (refine Below.trans ?_ (Below.mono (by with_reducible assumption) ?_)) | omega | (simp; done) | (simp; omega))
        have hp_W10 : Below w9.heap.size w9 W10 := by rw [hW]; repeat' (first | (with_reducible exact Below.refl _ _) | (with_reducible assumption) | (with_reducible refine Below.alloc ?_ ?_ _) | (with_reducible refine Below.setCell ?_ ?_ _) | (with_reducible refine Below.drew ?_) | (with_reducible refine below_drewN ?_ _) | (refine Below.trans ?_ (Below.mono (by with_reducible assumption) ?_)) | omega | (simp; done) | (simp; omega))
        have hz_W10 : w9.heap.size ≤ W10.heap.size := by rw [hW]; first | (simp; done) | (simp; omega)
        replace kb_b : Blk W10 (w.heap.size) 26 #[.int .i64 room, .int .i64 start, .slice A evs.length c, .int .i64 lv, .int .i64 ra, .int .i64 dr, .int .i64 lo] := by rw [hW]; repeat' (first | (with_reducible assumption) | (with_reducible refine Blk.drew ?_) | (with_reducible refine Blk.drewN ?_ _) | (with_reducible refine Blk.new' _ _ _ _ ?_; (first | rfl | omega | (simp; done))) | (with_reducible exact Blk.new _ _ _) | (with_reducible refine Blk.alloc ?_ _) | (with_reducible apply Blk.set8) | (with_reducible apply Blk.set7of8) | (with_reducible apply Blk.setlast8) | (with_reducible apply Blk.set7) | (with_reducible apply Blk.set2) | (with_reducible apply Blk.set3) | (with_reducible refine Blk.far ?_ ?_ _) | (simp; done) | (simp; omega) | (dsimp only; omega))
        have hLW10_b := kb_b.lt
        replace kb_d : Blk W10 (w9.heap.size) 26 #[.int .i64 room, .int .i64 start, .slice A8 (evs.length + 1) c8, .int .i64 0, .int .i64 ra, .int .i64 (dr + lv), .int .i64 lo] := by rw [hW]; repeat' (first | (with_reducible assumption) | (with_reducible refine Blk.drew ?_) | (with_reducible refine Blk.drewN ?_ _) | (with_reducible refine Blk.new' _ _ _ _ ?_; (first | rfl | omega | (simp; done))) | (with_reducible exact Blk.new _ _ _) | (with_reducible refine Blk.alloc ?_ _) | (with_reducible apply Blk.set8) | (with_reducible apply Blk.set7of8) | (with_reducible apply Blk.setlast8) | (with_reducible apply Blk.set7) | (with_reducible apply Blk.set2) | (with_reducible apply Blk.set3) | (with_reducible refine Blk.far ?_ ?_ _) | (simp; done) | (simp; omega) | (dsimp only; omega))
        have hLW10_d := kb_d.lt
        try clear kc_b kf_b
        try clear kc_d kf_d
        clear hW
        have HD10 := Lib.hid (RdT.below HD9r.out hp_W10)
        clear HD9r hp_W10
        refine (HNO.out _ hB).mono ?_
        rintro e w11 ⟨A11, c11, rfl, hb⟩
        have HD11 := Lib.hid (RdT.below HD10.out hb)
        clear HD10
        replace hB := hB.trans (Below.mono hb hB.size)
        have hz_w11 : W10.heap.size ≤ w11.heap.size := Below.size hb
        replace kb_b := Blk.below kb_b hb (by first | exact kb_b.lt | (have := kb_b.lt; omega))
        have kc_b := kb_b.cells
        have kf_b := kb_b.frozens
        have hl_b := kb_b.lt
        have hn_b := Nat.ne_of_lt kb_b.lt
        replace kb_d := Blk.below kb_d hb (by first | exact kb_d.lt | (have := kb_d.lt; omega))
        have kc_d := kb_d.cells
        have kf_d := kb_d.frozens
        have hl_d := kb_d.lt
        have hn_d := Nat.ne_of_lt kb_d.lt
        clear hb
        go_wp2_with fail
        first | refine name_world ?_ | refine name_wp ?_
        intro W12 hW
        replace hB : Below w.heap.size w W12 := by rw [hW]; repeat' (first | (with_reducible exact Below.refl _ _) | (with_reducible assumption) | (with_reducible refine Below.alloc ?_ ?_ _) | (with_reducible refine Below.setCell ?_ ?_ _) | (with_reducible refine Below.drew ?_) | (with_reducible refine below_drewN ?_ _) | (refine Below.trans ?_ (Below.mono (by with_reducible assumption) ?_)) | omega | (simp; done) | (simp; omega))
        have hp_W12 : Below w11.heap.size w11 W12 := by rw [hW]; repeat' (first | (with_reducible exact Below.refl _ _) | (with_reducible assumption) | (with_reducible refine Below.alloc ?_ ?_ _) | (with_reducible refine Below.setCell ?_ ?_ _) | (with_reducible refine Below.drew ?_) | (with_reducible refine below_drewN ?_ _) | (refine Below.trans ?_ (Below.mono (by with_reducible assumption) ?_)) | omega | (simp; done) | (simp; omega))
        have hz_W12 : w11.heap.size ≤ W12.heap.size := by rw [hW]; first | (simp; done) | (simp; omega)
        replace kb_b : Blk W12 (w.heap.size) 26 #[.int .i64 room, .int .i64 start, .slice A evs.length c, .int .i64 lv, .int .i64 ra, .int .i64 dr, .int .i64 lo] := by rw [hW]; repeat' (first | (with_reducible assumption) | (with_reducible refine Blk.drew ?_) | (with_reducible refine Blk.drewN ?_ _) | (with_reducible refine Blk.new' _ _ _ _ ?_; (first | rfl | omega | (simp; done))) | (with_reducible exact Blk.new _ _ _) | (with_reducible refine Blk.alloc ?_ _) | (with_reducible apply Blk.set8) | (with_reducible apply Blk.set7of8) | (with_reducible apply Blk.setlast8) | (with_reducible apply Blk.set7) | (with_reducible apply Blk.set2) | (with_reducible apply Blk.set3) | (with_reducible refine Blk.far ?_ ?_ _) | (simp; done) | (simp; omega) | (dsimp only; omega))
        have hLW12_b := kb_b.lt
        replace kb_d : Blk W12 (w9.heap.size) 26 #[.int .i64 room, .int .i64 start, .slice A8 (evs.length + 1) c8, .int .i64 0, .int .i64 ra, .int .i64 (dr + lv), .int .i64 lo] := by rw [hW]; repeat' (first | (with_reducible assumption) | (with_reducible refine Blk.drew ?_) | (with_reducible refine Blk.drewN ?_ _) | (with_reducible refine Blk.new' _ _ _ _ ?_; (first | rfl | omega | (simp; done))) | (with_reducible exact Blk.new _ _ _) | (with_reducible refine Blk.alloc ?_ _) | (with_reducible apply Blk.set8) | (with_reducible apply Blk.set7of8) | (with_reducible apply Blk.setlast8) | (with_reducible apply Blk.set7) | (with_reducible apply Blk.set2) | (with_reducible apply Blk.set3) | (with_reducible refine Blk.far ?_ ?_ _) | (simp; done) | (simp; omega) | (dsimp only; omega))
        have hLW12_d := kb_d.lt
        try clear kc_b kf_b
        try clear kc_d kf_d
        clear hW
        have HD12 := Lib.hid (RdT.below HD11.out hp_W12)
        clear HD11 hp_W12
        refine (HEV.out _).mono ?_
        rintro e w13 ⟨rfl, hb⟩
        have HD13 := Lib.hid (RdT.below HD12.out hb)
        clear HD12
        replace hB := hB.trans (Below.mono hb hB.size)
        have hz_w13 : W12.heap.size ≤ w13.heap.size := Below.size hb
        replace kb_b := Blk.below kb_b hb (by first | exact kb_b.lt | (have := kb_b.lt; omega))
        have kc_b := kb_b.cells
        have kf_b := kb_b.frozens
        have hl_b := kb_b.lt
        have hn_b := Nat.ne_of_lt kb_b.lt
        replace kb_d := Blk.below kb_d hb (by first | exact kb_d.lt | (have := kb_d.lt; omega))
        have kc_d := kb_d.cells
        have kf_d := kb_d.frozens
        have hl_d := kb_d.lt
        have hn_d := Nat.ne_of_lt kb_d.lt
        clear hb
        go_wp2_with fail
        first | refine name_world ?_ | refine name_wp ?_
        intro W14 hW
        replace hB : Below w.heap.size w W14 := by rw [hW]; repeat' (first | (with_reducible exact Below.refl _ _) | (with_reducible assumption) | (with_reducible refine Below.alloc ?_ ?_ _) | (with_reducible refine Below.setCell ?_ ?_ _) | (with_reducible refine Below.drew ?_) | (with_reducible refine below_drewN ?_ _) | (refine Below.trans ?_ (Below.mono (by with_reducible assumption) ?_)) | omega | (simp; done) | (simp; omega))
        have hp_W14 : Below w13.heap.size w13 W14 := by rw [hW]; repeat' (first | (with_reducible exact Below.refl _ _) | (with_reducible assumption) | (with_reducible refine Below.alloc ?_ ?_ _) | (with_reducible refine Below.setCell ?_ ?_ _) | (with_reducible refine Below.drew ?_) | (with_reducible refine below_drewN ?_ _) | (refine Below.trans ?_ (Below.mono (by with_reducible assumption) ?_)) | omega | (simp; done) | (simp; omega))
        have HD14 := Lib.hid (RdT.below HD13.out hp_W14)
        replace kb_b : Blk W14 w.heap.size 26 #[.int .i64 room, .int .i64 start, .slice A evs.length c, .int .i64 lv, .int .i64 ra, .int .i64 dr, .int .i64 lo] := by rw [hW]; repeat' (first | (with_reducible assumption) | (with_reducible refine Blk.drew ?_) | (with_reducible refine Blk.drewN ?_ _) | (with_reducible refine Blk.new' _ _ _ _ ?_; (first | rfl | omega | (simp; done))) | (with_reducible exact Blk.new _ _ _) | (with_reducible refine Blk.alloc ?_ _) | (with_reducible apply Blk.set8) | (with_reducible apply Blk.set7of8) | (with_reducible apply Blk.setlast8) | (with_reducible apply Blk.set7) | (with_reducible apply Blk.set2) | (with_reducible apply Blk.set3) | (with_reducible refine Blk.far ?_ ?_ _) | (simp; done) | (simp; omega) | (dsimp only; omega))
        replace kb_d : Blk W14 w9.heap.size 26 #[.int .i64 room, .int .i64 start, .slice A8 (evs.length + 1) c8, .int .i64 0, .int .i64 ra, .int .i64 (dr + lv), .int .i64 lo] := by rw [hW]; repeat' (first | (with_reducible assumption) | (with_reducible refine Blk.drew ?_) | (with_reducible refine Blk.drewN ?_ _) | (with_reducible refine Blk.new' _ _ _ _ ?_; (first | rfl | omega | (simp; done))) | (with_reducible exact Blk.new _ _ _) | (with_reducible refine Blk.alloc ?_ _) | (with_reducible apply Blk.set8) | (with_reducible apply Blk.set7of8) | (with_reducible apply Blk.setlast8) | (with_reducible apply Blk.set7) | (with_reducible apply Blk.set2) | (with_reducible apply Blk.set3) | (with_reducible refine Blk.far ?_ ?_ _) | (simp; done) | (simp; omega) | (dsimp only; omega))
        have kb_q : Blk W14 w13.heap.size 26 #[.int .i64 room, .int .i64 start, .slice A evs.length c, .int .i64 lv, .int .i64 ra, .int .i64 dr, .int .i64 (lo + 1)] := by rw [hW]; repeat' (first | (with_reducible assumption) | (with_reducible refine Blk.drew ?_) | (with_reducible refine Blk.drewN ?_ _) | (with_reducible refine Blk.new' _ _ _ _ ?_; (first | rfl | omega | (simp; done))) | (with_reducible exact Blk.new _ _ _) | (with_reducible refine Blk.alloc ?_ _) | (with_reducible apply Blk.set8) | (with_reducible apply Blk.set7of8) | (with_reducible apply Blk.setlast8) | (with_reducible apply Blk.set7) | (with_reducible apply Blk.set2) | (with_reducible apply Blk.set3) | (with_reducible refine Blk.far ?_ ?_ _) | (simp; done) | (simp; omega) | (dsimp only; omega))
        clear hW kc_b kf_b kc_d kf_d HD13 hp_W14
        have f_b : ∀ (z : NewW W14) (i : Nat), z.w.cell? ⟨w.heap.size, i, none⟩ = #[.int .i64 room, .int .i64 start, .slice A evs.length c, .int .i64 lv, .int .i64 ra, .int .i64 dr, .int .i64 lo][i]? := fun z i => (kb_b.newW z).cells i
        have f_d : ∀ (z : NewW W14) (i : Nat), z.w.cell? ⟨w9.heap.size, i, none⟩ = #[.int .i64 room, .int .i64 start, .slice A8 (evs.length + 1) c8, .int .i64 0, .int .i64 ra, .int .i64 (dr + lv), .int .i64 lo][i]? := fun z i => (kb_d.newW z).cells i
        have f_q : ∀ (z : NewW W14) (i : Nat), z.w.cell? ⟨w13.heap.size, i, none⟩ = #[.int .i64 room, .int .i64 start, .slice A evs.length c, .int .i64 lv, .int .i64 ra, .int .i64 dr, .int .i64 (lo + 1)][i]? := fun z i => (kb_q.newW z).cells i
        refine wp_region_new (by kernel_rfl) (by kernel_rfl) ?_
        repeat (go_big_quiet_step (first | (go_at_call 11; exact NewW.call (HD9.out _ _ _ (Rd.newW HD14.out _))) | (go_at_call 10; exact NewW.call (HBAD.out _ (hB.trans (Below.mono (NewW.h _) hB.size))))))
        refine wpQuiet_nil ?_
        intro w15 hw'
        obtain ⟨hx, hw''⟩ := hw'
        have hb15 := hx.h
        rw [← hw''] at hb15
        clear hw'' hx
        clear f_b f_d f_q
        replace hB := hB.trans (Below.mono hb15 hB.size)
        have hz_w15 : W14.heap.size ≤ w15.heap.size := Below.size hb15
        clear hb15
        go_wp2_with fail
        go_ret
        exact ⟨rfl, HB0.out.trans (hB.mono HB0.out.size)⟩
set_option maxRecDepth 100000 in
theorem lifted_FnBooks (os : Os) (started : os.Started) (H : Type) (enc : TypeId × Value → H) :
    ReturnsInHanded {} Try.checked os 3 .any (Rows.fnBooksSpec.pre6 enc Try.prog Try.f3 Rows.fnBooksRow.domain false) (Rows.fnBooksSpec.post enc Try.prog Try.f3 false true false false) := by
  refine returnsInHanded_of_change (C := Try.checked) own_knob started (by kernel_rfl) Try.func3
    (ChangeSpec.witness6 (enc := enc) (C := Try.checked) false ⟨#[], #[.slice none 0 0], []⟩ 8 (by kernel_rfl) (by kernel_rfl) (by kernel_rfl) (by kernel_rfl)) ?_
  intro W base args ds gs before hval0 hW hcnd _
  have hval : ∀ (j : Nat) t v, Try.f3.params[j]? = some t → args[j]? = some v → Value.okWide Try.prog W .any base t v := hval0
  have hW' := hW
  obtain ⟨p, q, hA0, hV, rfl, hfz, hnd⟩ := hW
  have hA : DataW.TrodAll enc Try.prog W 0 (fun _ => true) true Try.f3.params.toList args.toList ds p := hA0
  rw [Try.params3] at hA hval
  obtain ⟨v0, vs0, d0, ds0, p0, q0, hargs, rfl, rfl, h0, r0⟩ := trodAll_cons hA
  obtain ⟨rfl, rfl, rfl⟩ := trodAll_nil r0
  obtain rfl : args = #[v0] := by cases args; simp_all
  obtain ⟨rfl, rfl⟩ := trodVars_none hV
  obtain ⟨A0, c0, l0, rfl, hr0⟩ := arg_bytes (hval 0 22 v0 rfl rfl) h0
  have lt0 : ∀ x ∈ p0, x.block < W.heap.size := by obtain ⟨m, hm⟩ := h0; exact DataW.trod_lt m _ _ _ hm
  clear hA0 hval0
  refine (walk_FnBooks W A0 c0 l0 hr0).mono fun e W' ⟨he, bel⟩ => ?_
  subst he
  exact ⟨_, rfl, _, _, _, [], _, [], hW', trodAll_mk1 (shut_bool Try.underlying4 _), (trodAll_cons_mk (Below.trod laid_out (by kernel_rfl) (of_decide_eq_true (by kernel_rfl)) h0 bel lt0) trodAll_mk0), rfl, bel.frame _, fun h => by cases h⟩

theorem fnBooks_holds : Rows.FnBooksSaid :=
  OpenClaim.holds_of_wide 3 Try.f3 rfl rfl rfl rfl rfl rfl rfl ⟨rfl, rfl, rfl, rfl, rfl⟩ rfl rfl rfl rfl rfl (by kernel_rfl) Try.func3 (by kernel_rfl)
    (of_decide_eq_true (by kernel_rfl)) (by unfold Func.isWrapper; rw [if_neg (by decide +kernel)]; exact ⟨rfl, rfl⟩)
    (fun os started H enc _ => lifted_FnBooks os started H enc)
end Go.Proofs.Ytminkdapfamdeaa
