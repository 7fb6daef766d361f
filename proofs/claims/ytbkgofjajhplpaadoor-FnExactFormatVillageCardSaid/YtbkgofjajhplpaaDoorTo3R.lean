/- The law side's own helpers on rights and slices of rights: copy, compare, mark, look. -/
import Derived.Test.YtbkgofjajhplpaaDoorMark3
import Derived.Test.YtbkgofjajhplpaaDoorNew
namespace Go.Proofs.YtbkgofjajhplpaaDoor
set_option linter.unusedSimpArgs false
set_option linter.unusedVariables false
open Go.RowKit
set_option maxRecDepth 20000
set_option maxHeartbeats 400000 in
theorem toFraction_any (x y : Int) (w : World) :
    Calls Tryd.prog 119 #[.agg #[.int .i64 x, .int .i64 y]] w fun e w' => e = .returned (.agg #[.int .i64 x, .int .i64 y]) ∧ Below w.heap.size w w' := by
  go_enter Tryd.func119, Tryd.ntmps119
  go_wp2
  exact bodyPost_ret (v := .agg #[.int .i64 x, .int .i64 y]) (by simp [results, Tryd.results119, go_sem]) rfl ⟨rfl, by repeat' (first | (with_reducible exact Below.refl _ _) | (with_reducible assumption) | (with_reducible refine Below.alloc ?_ ?_ _) | (with_reducible refine Below.setCell ?_ ?_ _) | (with_reducible refine Below.drew ?_) | (with_reducible refine below_drewN ?_ _) | (refine Below.trans ?_ (Below.mono (by with_reducible assumption) ?_)) | omega | (simp; done) | (simp; omega))⟩
theorem eqFraction_same (x y : Int) (w : World) :
    Calls Tryd.prog 85 #[.agg #[.int .i64 x, .int .i64 y], .agg #[.int .i64 x, .int .i64 y]] w fun e w' => e = .returned (.bool true) ∧ Below w.heap.size w w' := by
  go_enter Tryd.func85, Tryd.ntmps85
  go_wp2
  go_ret
  exact ⟨rfl, by repeat' (first | (with_reducible exact Below.refl _ _) | (with_reducible assumption) | (with_reducible refine Below.alloc ?_ ?_ _) | (with_reducible refine Below.setCell ?_ ?_ _) | (with_reducible refine Below.drew ?_) | (with_reducible refine below_drewN ?_ _) | (refine Below.trans ?_ (Below.mono (by with_reducible assumption) ?_)) | omega | (simp; done) | (simp; omega))⟩
set_option maxHeartbeats 800000 in
theorem toRight_any (x y z : Int) (w : World) :
    Calls Tryd.prog 92 #[.agg #[.int .i64 x, .int .i64 y, .int .i64 z]] w fun e w' => e = .returned (.agg #[.int .i64 x, .int .i64 y, .int .i64 z]) ∧ Below w.heap.size w w' := by
  have hB := Below.refl w.heap.size w
  go_enter Tryd.func92, Tryd.ntmps92
  go_wp2_with fail
  first | refine name_world ?_ | refine name_wp ?_
  intro W1 hW
  replace hB : Below w.heap.size w W1 := by rw [hW]; repeat' (first | (with_reducible exact Below.refl _ _) | (with_reducible assumption) | (with_reducible refine Below.alloc ?_ ?_ _) | (with_reducible refine Below.setCell ?_ ?_ _) | (with_reducible refine Below.drew ?_) | (with_reducible refine below_drewN ?_ _) | (refine Below.trans ?_ (Below.mono (by with_reducible assumption) ?_)) | omega | (simp; done) | (simp; omega))
  have hz_W1 : w.heap.size ≤ W1.heap.size := by rw [hW]; first | (simp; done) | (simp; omega)
  replace kb_a : Blk W1 (w.heap.size) 116 #[.int .i64 x, .int .i64 y, .int .i64 z] := by rw [hW]; repeat' (first | (with_reducible assumption) | (with_reducible refine Blk.drew ?_) | (with_reducible refine Blk.drewN ?_ _) | (with_reducible refine Blk.new' _ _ _ _ ?_; (first | rfl | omega | (simp; done))) | (with_reducible exact Blk.new _ _ _) | (with_reducible refine Blk.alloc ?_ _) | (with_reducible apply Blk.set8) | (with_reducible apply Blk.set7of8) | (with_reducible apply Blk.setlast8) | (with_reducible apply Blk.set7) | (with_reducible apply Blk.set2) | (with_reducible apply Blk.set3) | (with_reducible refine Blk.far ?_ ?_ _) | (simp; done) | (simp; omega) | (dsimp only; omega))
  have hLW1_a := kb_a.lt
  replace kb_r : Blk W1 (w.heap.size + 1) 67 #[.int .i64 0, .int .i64 0, .int .i64 0] := by rw [hW]; repeat' (first | (with_reducible assumption) | (with_reducible refine Blk.drew ?_) | (with_reducible refine Blk.drewN ?_ _) | (with_reducible refine Blk.new' _ _ _ _ ?_; (first | rfl | omega | (simp; done))) | (with_reducible exact Blk.new _ _ _) | (with_reducible refine Blk.alloc ?_ _) | (with_reducible apply Blk.set8) | (with_reducible apply Blk.set7of8) | (with_reducible apply Blk.setlast8) | (with_reducible apply Blk.set7) | (with_reducible apply Blk.set2) | (with_reducible apply Blk.set3) | (with_reducible refine Blk.far ?_ ?_ _) | (simp; done) | (simp; omega) | (dsimp only; omega))
  have hLW1_r := kb_r.lt
  replace kb_o : Blk W1 (w.heap.size + 2) 67 #[.int .i64 x, .int .i64 0, .int .i64 0] := by rw [hW]; repeat' (first | (with_reducible assumption) | (with_reducible refine Blk.drew ?_) | (with_reducible refine Blk.drewN ?_ _) | (with_reducible refine Blk.new' _ _ _ _ ?_; (first | rfl | omega | (simp; done))) | (with_reducible exact Blk.new _ _ _) | (with_reducible refine Blk.alloc ?_ _) | (with_reducible apply Blk.set8) | (with_reducible apply Blk.set7of8) | (with_reducible apply Blk.setlast8) | (with_reducible apply Blk.set7) | (with_reducible apply Blk.set2) | (with_reducible apply Blk.set3) | (with_reducible refine Blk.far ?_ ?_ _) | (simp; done) | (simp; omega) | (dsimp only; omega))
  have hLW1_o := kb_o.lt
  try clear kc_a kf_a
  try clear kc_r kf_r
  try clear kc_o kf_o
  clear hW
  refine (toFraction_any _ _ _).mono ?_
  rintro e w1 ⟨rfl, hb⟩
  replace hB := hB.trans (Below.mono hb hB.size)
  have hz_w1 : W1.heap.size ≤ w1.heap.size := Below.size hb
  replace kb_a := Blk.below kb_a hb (by first | exact kb_a.lt | (have := kb_a.lt; omega))
  have kc_a := kb_a.cells
  have kf_a := kb_a.frozens
  have hl_a := kb_a.lt
  have hn_a := Nat.ne_of_lt kb_a.lt
  replace kb_r := Blk.below kb_r hb (by first | exact kb_r.lt | (have := kb_r.lt; omega))
  have kc_r := kb_r.cells
  have kf_r := kb_r.frozens
  have hl_r := kb_r.lt
  have hn_r := Nat.ne_of_lt kb_r.lt
  replace kb_o := Blk.below kb_o hb (by first | exact kb_o.lt | (have := kb_o.lt; omega))
  have kc_o := kb_o.cells
  have kf_o := kb_o.frozens
  have hl_o := kb_o.lt
  have hn_o := Nat.ne_of_lt kb_o.lt
  clear hb
  go_wp2_with fail
  exact bodyPost_ret (v := .agg #[.int .i64 x, .int .i64 y, .int .i64 z]) (by simp [results, Tryd.results92, go_sem, kc_a, kc_r, kc_o]) rfl ⟨rfl, by repeat' (first | (with_reducible exact Below.refl _ _) | (with_reducible assumption) | (with_reducible refine Below.alloc ?_ ?_ _) | (with_reducible refine Below.setCell ?_ ?_ _) | (with_reducible refine Below.drew ?_) | (with_reducible refine below_drewN ?_ _) | (refine Below.trans ?_ (Below.mono (by with_reducible assumption) ?_)) | omega | (simp; done) | (simp; omega))⟩
theorem eqRight_same (x y z : Int) (w : World) :
    Calls Tryd.prog 44 #[.agg #[.int .i64 x, .int .i64 y, .int .i64 z], .agg #[.int .i64 x, .int .i64 y, .int .i64 z]] w fun e w' => e = .returned (.bool true) ∧ Below w.heap.size w w' := by
  have hB := Below.refl w.heap.size w
  have hd : (x != x) = false := by simp
  go_enter Tryd.func44, Tryd.ntmps44
  go_wp2_with fail
  first | refine name_world ?_ | refine name_wp ?_
  intro W1 hW
  replace hB : Below w.heap.size w W1 := by rw [hW]; repeat' (first | (with_reducible exact Below.refl _ _) | (with_reducible assumption) | (with_reducible refine Below.alloc ?_ ?_ _) | (with_reducible refine Below.setCell ?_ ?_ _) | (with_reducible refine Below.drew ?_) | (with_reducible refine below_drewN ?_ _) | (refine Below.trans ?_ (Below.mono (by with_reducible assumption) ?_)) | omega | (simp; done) | (simp; omega))
  have hz_W1 : w.heap.size ≤ W1.heap.size := by rw [hW]; first | (simp; done) | (simp; omega)
  replace kb_a : Blk W1 (w.heap.size) 67 #[.int .i64 x, .int .i64 y, .int .i64 z] := by rw [hW]; repeat' (first | (with_reducible assumption) | (with_reducible refine Blk.drew ?_) | (with_reducible refine Blk.drewN ?_ _) | (with_reducible refine Blk.new' _ _ _ _ ?_; (first | rfl | omega | (simp; done))) | (with_reducible exact Blk.new _ _ _) | (with_reducible refine Blk.alloc ?_ _) | (with_reducible apply Blk.set8) | (with_reducible apply Blk.set7of8) | (with_reducible apply Blk.setlast8) | (with_reducible apply Blk.set7) | (with_reducible apply Blk.set2) | (with_reducible apply Blk.set3) | (with_reducible refine Blk.far ?_ ?_ _) | (simp; done) | (simp; omega) | (dsimp only; omega))
  have hLW1_a := kb_a.lt
  try clear kc_a kf_a
  clear hW
  refine (eqFraction_same _ _ _).mono ?_
  rintro e w1 ⟨rfl, hb⟩
  replace hB := hB.trans (Below.mono hb hB.size)
  have hz_w1 : W1.heap.size ≤ w1.heap.size := Below.size hb
  replace kb_a := Blk.below kb_a hb (by first | exact kb_a.lt | (have := kb_a.lt; omega))
  have kc_a := kb_a.cells
  have kf_a := kb_a.frozens
  have hl_a := kb_a.lt
  have hn_a := Nat.ne_of_lt kb_a.lt
  clear hb
  go_wp2_with fail
  go_ret
  exact ⟨rfl, by repeat' (first | (with_reducible exact Below.refl _ _) | (with_reducible assumption) | (with_reducible refine Below.alloc ?_ ?_ _) | (with_reducible refine Below.setCell ?_ ?_ _) | (with_reducible refine Below.drew ?_) | (with_reducible refine below_drewN ?_ _) | (refine Below.trans ?_ (Below.mono (by with_reducible assumption) ?_)) | omega | (simp; done) | (simp; omega))⟩
theorem infoRight : (Tryd.prog.info? 67).map (fun i => (i.zero, i.size, i.bytes)) = some (some (.agg #[.int .i64 0, .int .i64 0, .int .i64 0]), 3, 24) := by kernel_rfl
set_option maxHeartbeats 1600000 in
theorem toRightS_any (A : Option Addr) (c : Nat) (l : List T3) (w : World) (h : RdT w w.heap.size A c l) (hs : l.length ≤ 1048576) :
    Calls Tryd.prog 51 #[.slice A l.length c] w fun e w' => ∃ A' c', e = .returned (.slice A' l.length c') ∧ w'.ownsRow w.heap.size 67 3 (.slice A' l.length c') l.length (t3s l) ∧ Below w.heap.size w w' := by
  obtain ⟨hl, hm⟩ := h.le
  obtain ⟨i0, hi, hz0, hz1, hz2⟩ := info_parts infoRight
  go_enter Tryd.func51, Tryd.ntmps51
  go_wp2_with (at_make; refine wpList_make_full _ rfl _ _ 22 rfl w.heap.size 67 i0 _ 3 Tryd.underlying22 hi hz0 hz1 _ _ _ _ l.length rfl rfl rfl rfl (by rw [hz2]; omega) (by unfold maxLen; omega) (Nat.le_refl _) ?_)
  intro w1 hown hg
  have hb1 : Below w.heap.size w w1 := (Below.refl _ _).grown hg (Nat.le_refl _) (by simp)
  have ho : w1.ownsRow w.heap.size 67 3 (.slice (some ⟨w.heap.size, 0, none⟩) l.length l.length) l.length (t3s (tkT l 0)) := by
    have e := madeT l.length
    try unfold Value.cells at hown
    rw [e] at hown
    simpa [tkT] using hown
  have H0 := Lib.hid (And.intro hb1 ho)
  clear hown hg hb1 ho
  go_wp2
  go_loopw [4] (fun i wr => ∃ k : Nat, k ≤ l.length ∧ i = .int .i64 k ∧ wr.ownsRow w.heap.size 67 3 (.slice (some ⟨w.heap.size, 0, none⟩) l.length l.length) l.length (t3s (tkT l k)) ∧ Below w.heap.size w wr) (fun i _ => l.length - (intOf i).toNat)
  case atStart => exact ⟨0, Nat.zero_le _, rfl, H0.out.2, H0.out.1⟩
  case round =>
    obtain ⟨k, hk, rfl, ho, hb⟩ := hrel
    by_cases hlt : k < l.length
    · obtain ⟨b, o, t, rfl, hbb, hx, e0, e1, e2⟩ := h.at_ hlt
      have f0 : wr.cell? ⟨b, o + k * 3, none⟩ = some (.int .i64 t.x) := (hb.cell (p := ⟨b, _, none⟩) hbb).trans e0
      have f1 : wr.cell? ⟨b, o + k * 3 + 1, none⟩ = some (.int .i64 t.y) := (hb.cell (p := ⟨b, _, none⟩) hbb).trans e1
      have f2 : wr.cell? ⟨b, o + k * 3 + 2, none⟩ = some (.int .i64 t.z) := (hb.cell (p := ⟨b, _, none⟩) hbb).trans e2
      have hsz := hb.size
      clear e0 e1 e2
      have HX := Lib.hid (And.intro hx (And.intro ho hb))
      clear hx ho hb
      go_wp2_with (go_at_call 92; refine (toRight_any _ _ _ _).mono ?_; rintro e w2 ⟨rfl, hb2⟩; obtain ⟨g, hg, hg1, hg2, hfz, ⟨t', ht', j0, j1, j2⟩, hset⟩ := own_setT (own_below (by rw [tkT_len l k hk]; exact HX.out.2.1 : wr.ownsRow w.heap.size 67 3 (.slice (some ⟨w.heap.size, 0, none⟩) (tkT l k).length l.length) (tkT l k).length (t3s (tkT l k))) hb2 (Nat.le_refl _)) (k := k) (by rw [tkT_len l k hk]; exact hlt); obtain rfl : w.heap.size = g := (by simpa using hg); have hz := hfz (k * 3); have hz1 := hfz (k * 3 + 1); have hz2 := hfz (k * 3 + 2); have HS := Lib.hid (And.intro hset hb2); clear hset hg ht' hg1 hb2)
      go_roundw
      case rel =>
        have hb := HX.out.2.2
        refine ⟨k + 1, by omega, by go_num, ?_, ?_⟩
        · have := (HS.out.1 t).1
          rw [tkT_succ HX.out.1, tkT_len l k hk] at this
          exact this
        · have hb2 := HS.out.2
          repeat' (first | (with_reducible exact Below.refl _ _) | (with_reducible assumption) | (with_reducible refine Below.alloc ?_ ?_ _) | (with_reducible refine Below.setCell ?_ ?_ _) | (with_reducible refine Below.drew ?_) | (with_reducible refine below_drewN ?_ _) | (refine Below.trans ?_ (Below.mono (by with_reducible assumption) ?_)) | omega | (simp; done) | (simp; omega))
      case measure => simp [intOf]; omega
    · obtain rfl : k = l.length := by omega
      rw [tkT_all] at ho
      have H1 := Lib.hid (And.intro hb ho)
      clear ho hb
      go_wp2
      go_ret
      exact ⟨_, _, rfl, H1.out.2, H1.out.1⟩
set_option maxHeartbeats 1600000 in
theorem eqRightS_same (A : Option Addr) (c : Nat) (B : Option Addr) (d : Nat) (l : List T3) (w : World) (h : RdT w w.heap.size A c l) (h' : RdT w w.heap.size B d l) :
    Calls Tryd.prog 11 #[.slice A l.length c, .slice B l.length d] w fun e w' => e = .returned (.bool true) ∧ Below w.heap.size w w' := by
  obtain ⟨hl, hm⟩ := h.le
  obtain ⟨hl', hm'⟩ := h'.le
  have hne : ((l.length : Int) != (l.length : Int)) = false := by simp
  go_enter Tryd.func11, Tryd.ntmps11
  go_wp2
  go_loopw [5] (fun i wr => ∃ k : Nat, k ≤ l.length ∧ i = .int .i64 k ∧ Below w.heap.size w wr) (fun i _ => l.length - (intOf i).toNat)
  case atStart => exact ⟨0, Nat.zero_le _, rfl, Below.refl _ _⟩
  case round =>
    obtain ⟨k, hk, rfl, hB⟩ := hrel
    have hsz := hB.size
    by_cases hlt : k < l.length
    · obtain ⟨b, o, t, rfl, hbb, hx, e0, e1, e2⟩ := h.at_ hlt
      obtain ⟨b', o', t', rfl, hbb', hx', e0', e1', e2'⟩ := h'.at_ hlt
      obtain rfl : t = t' := by rw [hx] at hx'; exact Option.some.inj hx'
      have g0 : ∀ (z : NewW wr), z.w.cell? ⟨b, o + k * 3, none⟩ = some (.int .i64 t.x) := fun z => NewW.cell ((hB.cell (p := ⟨b, _, none⟩) hbb).trans e0) z
      have g1 : ∀ (z : NewW wr), z.w.cell? ⟨b, o + k * 3 + 1, none⟩ = some (.int .i64 t.y) := fun z => NewW.cell ((hB.cell (p := ⟨b, _, none⟩) hbb).trans e1) z
      have g2 : ∀ (z : NewW wr), z.w.cell? ⟨b, o + k * 3 + 2, none⟩ = some (.int .i64 t.z) := fun z => NewW.cell ((hB.cell (p := ⟨b, _, none⟩) hbb).trans e2) z
      have g3 : ∀ (z : NewW wr), z.w.cell? ⟨b', o' + k * 3, none⟩ = some (.int .i64 t.x) := fun z => NewW.cell ((hB.cell (p := ⟨b', _, none⟩) hbb').trans e0') z
      have g4 : ∀ (z : NewW wr), z.w.cell? ⟨b', o' + k * 3 + 1, none⟩ = some (.int .i64 t.y) := fun z => NewW.cell ((hB.cell (p := ⟨b', _, none⟩) hbb').trans e1') z
      have g5 : ∀ (z : NewW wr), z.w.cell? ⟨b', o' + k * 3 + 2, none⟩ = some (.int .i64 t.z) := fun z => NewW.cell ((hB.cell (p := ⟨b', _, none⟩) hbb').trans e2') z
      clear e0 e1 e2 e0' e1' e2' hx hx'
      have hk0 : (0 : Int) ≤ (k : Int) := by omega
      have hk1 : (k : Int) < (l.length : Int) := by omega
      go_wp2
      refine wp_region_new (by kernel_rfl) (by kernel_rfl) ?_
      repeat (go_big_quiet_step ((go_at_call 44; exact NewW.call (eqRight_same _ _ _ _))))
      refine wpQuiet_nil ?_
      intro w2 hw'
      obtain ⟨hx, hw''⟩ := hw'
      have hb2 := hx.h
      rw [← hw''] at hb2
      clear hw'' hx
      clear g0 g1 g2 g3 g4 g5
      replace hB := hB.trans (Below.mono hb2 hB.size)
      have hz_w2 : wr.heap.size ≤ w2.heap.size := Below.size hb2
      clear hb2
      go_wp2
      go_roundw
      case rel => exact ⟨k + 1, by omega, by go_num, hB⟩
      case measure => simp [intOf]; omega
    · go_wp2
      go_ret
      exact ⟨rfl, hB⟩
set_option maxHeartbeats 400000 in
theorem szRightS_ok1 (A : Option Addr) (n c : Nat) (left : Int) (w : World) (h : (n : Int) ≤ left) (h2 : left ≤ 1048576) :
    Calls Tryd.prog 46 #[.slice A n c, .int .i64 left] w fun e w' => e = .returned (.int .i64 (left - n)) ∧ w = w' := by
  go_enter Tryd.func46, Tryd.ntmps46
  go_wp2
  go_ret
  exact ⟨rfl, rfl⟩
theorem szRightS_ok (A : Option Addr) (c : Nat) (l : List T3) (left : Int) (w : World) (h : (l.length : Int) ≤ left) (h2 : left ≤ 1048576) :
    Calls Tryd.prog 46 #[.slice A l.length c, .int .i64 left] w fun e w' => e = .returned (.int .i64 (left - l.length)) ∧ Below w.heap.size w w' := post_s (szRightS_ok1 _ _ _ _ _ h h2)
set_option maxHeartbeats 400000 in
theorem szRightS_big1 (A : Option Addr) (n c : Nat) (left : Int) (w : World) (h : left < n) (h1 : 0 ≤ left) (h2 : n ≤ 9223372036854775807) :
    Calls Tryd.prog 46 #[.slice A n c, .int .i64 left] w fun e w' => e = .returned (.int .i64 (-1)) ∧ w = w' := by
  go_enter Tryd.func46, Tryd.ntmps46
  go_wp2
  go_ret
  exact ⟨rfl, rfl⟩
theorem szRightS_big (A : Option Addr) (c : Nat) (l : List T3) (left : Int) (w : World) (h : left < (l.length : Int)) (h1 : 0 ≤ left) (h2 : l.length ≤ 9223372036854775807) :
    Calls Tryd.prog 46 #[.slice A l.length c, .int .i64 left] w fun e w' => e = .returned (.int .i64 (-1)) ∧ Below w.heap.size w w' := post_s (szRightS_big1 _ _ _ _ _ h h1 h2)
set_option maxHeartbeats 800000 in
theorem markRightS_any (A : Option Addr) (c base : Nat) (l : List T3) (k : Nat) (w : World) (h : w.ownsRow base 67 3 (.slice A l.length c) l.length (t3s l)) (hs : l.length ≤ 1048576 * 64) (hkk : k ≤ 1048576 * 64) :
    Calls Tryd.prog 12 #[.slice A l.length c, .int .i64 k] w fun e w' => e = .returned (.int .i64 ((k + 3 * l.length : Nat) : Int)) ∧ w'.ownsRow base 67 3 (.slice A l.length c) l.length (t3s (marksT k l.length)) ∧ w.grownBy w' (Value.slice A l.length c).ownBlock := by
  go_enter Tryd.func12, Tryd.ntmps12
  go_wp2
  go_loopw [1, 5] (fun kk i wr => ∃ j : Nat, j ≤ l.length ∧ i = .int .i64 j ∧ kk = .int .i64 ((k + 3 * j : Nat) : Int) ∧ wr.ownsRow base 67 3 (.slice A l.length c) l.length (t3s (mkT l k j)) ∧ w.grownBy wr (Value.slice A l.length c).ownBlock) (fun _ i _ => l.length - (intOf i).toNat)
  case atStart => exact ⟨0, Nat.zero_le _, rfl, rfl, h, World.grownBy.refl _ _⟩
  case round =>
    obtain ⟨j, hj, rfl, rfl, ho, hgr⟩ := hrel
    have hlen := mkT_len l k j hj
    by_cases hlt : j < l.length
    · obtain ⟨g, hg, hg1, hg2, hfz, ⟨t, hx, e0, e1, e2⟩, hset⟩ := own_setT (l := mkT l k j) (k := j) (by rw [hlen]; exact ho) (by rw [hlen]; exact hlt)
      subst hg
      obtain ⟨ho', hgr'⟩ := hset (tm (k + 3 * j))
      rw [mkT_succ l k j hlt, hlen] at ho'
      have H1 := Lib.hid (And.intro (grownBy_trans hgr hgr') ho')
      clear ho hgr hgr' ho' hset hlen hx
      go_wp2
      go_roundw
      case rel => exact ⟨j + 1, by omega, by go_num, by go_num, H1.out.2, H1.out.1⟩
      case measure => simp [intOf]; omega
    · obtain rfl : j = l.length := by omega
      rw [mkT_all] at ho
      have H1 := Lib.hid (And.intro hgr ho)
      clear ho hgr hlen
      go_wp2
      go_ret
      exact ⟨by simp, H1.out.2, H1.out.1⟩
theorem markRightS_2 (A : Option Addr) (c lo hi : Nat) (l : List T3) (k : Nat) (kz : Int) (hk : kz = k) (w : World) (h : Row2 w lo hi 67 3 A l.length c (t3s l)) (hs : l.length ≤ 1048576 * 64) (hkk : k ≤ 1048576 * 64) :
    Calls Tryd.prog 12 #[.slice A l.length c, .int .i64 kz] w fun e w' => e = .returned (.int .i64 (kz + 3 * l.length)) ∧ Row2 w' lo hi 67 3 A l.length c (t3s (marksT k l.length)) ∧ Chg lo hi w w' := by
  subst hk
  exact (markRightS_any A c lo l k w h.1 hs hkk).mono fun e w' ⟨h1, h2, h3⟩ => ⟨by rw [h1]; simp, ⟨h2, h.2⟩, h.wrote h3⟩
set_option maxHeartbeats 800000 in
theorem heldRightS_any (A : Option Addr) (c n k : Nat) (w : World) (h : Rd w w.heap.size 3 A n c (t3s (marksT k n))) (hs : n ≤ 1048576 * 64) (hkk : k ≤ 1048576 * 64) :
    Calls Tryd.prog 13 #[.slice A n c, .int .i64 k] w fun e w' => e = .returned (.int .i64 ((k + 3 * n : Nat) : Int)) ∧ w = w' := by
  have hT : RdT w w.heap.size A c (marksT k n) := by unfold RdT; rw [marksT_len]; exact h
  go_enter Tryd.func13, Tryd.ntmps13
  go_wp2
  go_loop [1, 5] (fun kk i => ∃ j : Nat, j ≤ n ∧ i = .int .i64 j ∧ kk = .int .i64 ((k + 3 * j : Nat) : Int)) (fun _ i => n - (intOf i).toNat)
  case atStart => exact ⟨0, Nat.zero_le _, rfl, rfl⟩
  case round =>
    obtain ⟨j, hj, rfl, rfl⟩ := hrel
    by_cases hlt : j < n
    · obtain ⟨b, o, t, rfl, hbb, hx, e0, e1, e2⟩ := hT.at_ (k := j) (by rw [marksT_len]; exact hlt)
      rw [marksT_get k n j hlt] at hx
      injection hx with hx
      subst hx
      simp only [tm] at e0 e1 e2
      go_wp2
      go_round
      case rel => exact ⟨j + 1, by omega, by go_num, by go_num⟩
      case measure => simp [intOf]; omega
    · obtain rfl : j = n := by omega
      go_wp2
      go_ret
      exact ⟨by simp, rfl⟩
theorem heldRightS_2 (A : Option Addr) (c lo hi n k : Nat) (kz : Int) (hk : kz = k) (w : World) (h : Row2 w lo hi 67 3 A n c (t3s (marksT k n))) (hs : n ≤ 1048576 * 64) (hkk : k ≤ 1048576 * 64) :
    Calls Tryd.prog 13 #[.slice A n c, .int .i64 kz] w fun e w' => e = .returned (.int .i64 (kz + 3 * n)) ∧ Below w.heap.size w w' := by
  subst hk
  have := post_s (heldRightS_any A c n k w h.rd hs hkk)
  simpa using this
end Go.Proofs.YtbkgofjajhplpaaDoor
