/- Villages: VillageOk, the law side's helpers, copies. -/
import Derived.Test.YtbkgofjajhplpaaDoorRightsOk
import Derived.Test.YtbkgofjajhplpaaDoorCopyBook
import Derived.Test.YtbkgofjajhplpaaDoorMarkBook
import Derived.Test.YtbkgofjajhplpaaDoorToBook
import Derived.Test.YtbkgofjajhplpaaDoorTo3R
namespace Go.Proofs.YtbkgofjajhplpaaDoor
set_option linter.unusedSimpArgs false
set_option linter.unusedVariables false
open Go.RowKit
set_option maxRecDepth 20000
structure Vg where
  book : Bk
  rights : List T3
def Vg.val (v : Vg) (A : Option Addr) (c : Nat) (R : Option Addr) (d : Nat) : Value := .agg #[.int .i64 v.book.room, .int .i64 v.book.start, .slice A v.book.evs.length c, .int .i64 v.book.level, .int .i64 v.book.rained, .int .i64 v.book.drunk, .int .i64 v.book.lost, .slice R v.rights.length d]
def villageOk (v : Vg) : Bool := bookOk v.book && rightsOk v.rights
set_option maxHeartbeats 1600000 in
theorem VillageOk_any (A : Option Addr) (c : Nat) (R : Option Addr) (d : Nat) (v : Vg) (w : World) (h : RdT w w.heap.size A c v.book.evs) (h' : RdT w w.heap.size R d v.rights) (hs : v.book.evs.length ≤ 1048576) :
    Calls Tryd.prog 52 #[v.val A c R d] w fun e w' => e = .returned (.bool (villageOk v)) ∧ Below w.heap.size w w' := by
  have hB := Below.refl w.heap.size w
  have h1 := fun (W : World) (hb : Below w.heap.size w W) => BookOk_any A c v.book W (h.below hb)
  have h2 := fun (W : World) (hb : Below w.heap.size w W) => RightsOk_any R d v.rights W (h'.below hb)
  have hv : villageOk v = (bookOk v.book && rightsOk v.rights) := rfl
  rw [hv]
  clear hv
  unfold Vg.val
  unfold Bk.val at h1
  obtain ⟨⟨room, start, l, lv, ra, dr, lo⟩, rs⟩ := v
  simp only at h h' hs h1 h2 ⊢
  have H1 := Lib.hid h1
  have H2 := Lib.hid h2
  clear h1 h2
  cases c1 : bookOk ⟨room, start, l, lv, ra, dr, lo⟩
  all_goals
    go_enter Tryd.func52, Tryd.ntmps52
    go_wp2_with fail
    first | refine name_world ?_ | refine name_wp ?_
    intro W1 hW
    replace hB : Below w.heap.size w W1 := by rw [hW]; repeat' (first | (with_reducible exact Below.refl _ _) | (with_reducible assumption) | (with_reducible refine Below.alloc ?_ ?_ _) | (with_reducible refine Below.setCell ?_ ?_ _) | (with_reducible refine Below.drew ?_) | (with_reducible refine below_drewN ?_ _) | (refine Below.trans ?_ (Below.mono (by with_reducible assumption) ?_)) | omega | (simp; done) | (simp; omega))
    have hz_W1 : w.heap.size ≤ W1.heap.size := by rw [hW]; first | (simp; done) | (simp; omega)
    replace kb_p : Blk W1 (w.heap.size) 41 #[.int .i64 room, .int .i64 start, .slice A l.length c, .int .i64 lv, .int .i64 ra, .int .i64 dr, .int .i64 lo, .slice R rs.length d] := by rw [hW]; repeat' (first | (with_reducible assumption) | (with_reducible refine Blk.drew ?_) | (with_reducible refine Blk.drewN ?_ _) | (with_reducible refine Blk.new' _ _ _ _ ?_; (first | rfl | omega | (simp; done))) | (with_reducible exact Blk.new _ _ _) | (with_reducible refine Blk.alloc ?_ _) | (with_reducible apply Blk.set8) | (with_reducible apply Blk.set7of8) | (with_reducible apply Blk.setlast8) | (with_reducible apply Blk.set7) | (with_reducible apply Blk.set2) | (with_reducible apply Blk.set3) | (with_reducible refine Blk.far ?_ ?_ _) | (simp; done) | (simp; omega) | (dsimp only; omega))
    have hLW1_p := kb_p.lt
    try clear kc_p kf_p
    clear hW
    refine (H1.out _ hB).mono ?_
    rw [c1]
    rintro e w1 ⟨rfl, hb⟩
    replace hB := hB.trans (Below.mono hb hB.size)
    have hz_w1 : W1.heap.size ≤ w1.heap.size := Below.size hb
    replace kb_p := Blk.below kb_p hb (by first | exact kb_p.lt | (have := kb_p.lt; omega))
    have kc_p := kb_p.cells
    have kf_p := kb_p.frozens
    have hl_p := kb_p.lt
    have hn_p := Nat.ne_of_lt kb_p.lt
    clear hb
    go_wp2_with fail
  · go_ret
    exact ⟨rfl, hB⟩
  · refine (H2.out _ hB).mono ?_
    rintro e w2 ⟨rfl, hb⟩
    replace hB := hB.trans (Below.mono hb hB.size)
    have hz_w2 : w1.heap.size ≤ w2.heap.size := Below.size hb
    clear hb
    go_wp2_with fail
    go_ret
    exact ⟨rfl, hB⟩
set_option maxHeartbeats 1600000 in
theorem VillageOkS_any (A : Option Addr) (c : Nat) (R : Option Addr) (d : Nat) (v : Vg) (w : World) (h : RdT w w.heap.size A c v.book.evs) (h' : RdT w w.heap.size R d v.rights) (hs : v.book.evs.length ≤ 1048576) :
    Calls Tryd.prog 47 #[v.val A c R d] w fun e w' => e = .returned (.bool (villageOk v)) ∧ Below w.heap.size w w' := by
  have hB := Below.refl w.heap.size w
  have h1 := fun (W : World) (hb : Below w.heap.size w W) => BookOkS_any A c v.book W (h.below hb) hs
  have h2 := fun (W : World) (hb : Below w.heap.size w W) => RightsOkS_any R d v.rights W (h'.below hb)
  have hv : villageOk v = (bookOk v.book && rightsOk v.rights) := rfl
  rw [hv]
  clear hv
  unfold Vg.val
  unfold Bk.val at h1
  obtain ⟨⟨room, start, l, lv, ra, dr, lo⟩, rs⟩ := v
  simp only at h h' hs h1 h2 ⊢
  have H1 := Lib.hid h1
  have H2 := Lib.hid h2
  clear h1 h2
  cases c1 : bookOk ⟨room, start, l, lv, ra, dr, lo⟩
  all_goals
    go_enter Tryd.func47, Tryd.ntmps47
    go_wp2_with fail
    first | refine name_world ?_ | refine name_wp ?_
    intro W1 hW
    replace hB : Below w.heap.size w W1 := by rw [hW]; repeat' (first | (with_reducible exact Below.refl _ _) | (with_reducible assumption) | (with_reducible refine Below.alloc ?_ ?_ _) | (with_reducible refine Below.setCell ?_ ?_ _) | (with_reducible refine Below.drew ?_) | (with_reducible refine below_drewN ?_ _) | (refine Below.trans ?_ (Below.mono (by with_reducible assumption) ?_)) | omega | (simp; done) | (simp; omega))
    have hz_W1 : w.heap.size ≤ W1.heap.size := by rw [hW]; first | (simp; done) | (simp; omega)
    replace kb_p : Blk W1 (w.heap.size) 41 #[.int .i64 room, .int .i64 start, .slice A l.length c, .int .i64 lv, .int .i64 ra, .int .i64 dr, .int .i64 lo, .slice R rs.length d] := by rw [hW]; repeat' (first | (with_reducible assumption) | (with_reducible refine Blk.drew ?_) | (with_reducible refine Blk.drewN ?_ _) | (with_reducible refine Blk.new' _ _ _ _ ?_; (first | rfl | omega | (simp; done))) | (with_reducible exact Blk.new _ _ _) | (with_reducible refine Blk.alloc ?_ _) | (with_reducible apply Blk.set8) | (with_reducible apply Blk.set7of8) | (with_reducible apply Blk.setlast8) | (with_reducible apply Blk.set7) | (with_reducible apply Blk.set2) | (with_reducible apply Blk.set3) | (with_reducible refine Blk.far ?_ ?_ _) | (simp; done) | (simp; omega) | (dsimp only; omega))
    have hLW1_p := kb_p.lt
    try clear kc_p kf_p
    clear hW
    refine (H1.out _ hB).mono ?_
    rw [c1]
    rintro e w1 ⟨rfl, hb⟩
    replace hB := hB.trans (Below.mono hb hB.size)
    have hz_w1 : W1.heap.size ≤ w1.heap.size := Below.size hb
    replace kb_p := Blk.below kb_p hb (by first | exact kb_p.lt | (have := kb_p.lt; omega))
    have kc_p := kb_p.cells
    have kf_p := kb_p.frozens
    have hl_p := kb_p.lt
    have hn_p := Nat.ne_of_lt kb_p.lt
    clear hb
    go_wp2_with fail
  · go_ret
    exact ⟨rfl, hB⟩
  · refine (H2.out _ hB).mono ?_
    rintro e w2 ⟨rfl, hb⟩
    replace hB := hB.trans (Below.mono hb hB.size)
    have hz_w2 : w1.heap.size ≤ w2.heap.size := Below.size hb
    clear hb
    go_wp2_with fail
    go_ret
    exact ⟨rfl, hB⟩
set_option maxHeartbeats 1600000 in
theorem toVillage_any (A : Option Addr) (c : Nat) (R : Option Addr) (d : Nat) (v : Vg) (w : World) (h : RdT w w.heap.size A c v.book.evs) (h' : RdT w w.heap.size R d v.rights) (hs : v.book.evs.length + v.rights.length ≤ 1048576) :
    Calls Tryd.prog 16 #[v.val A c R d] w fun e w' => ∃ A' c' R' d', e = .returned (v.val A' c' R' d') ∧ w'.ownsRow w.heap.size 139 3 (.slice A' v.book.evs.length c') v.book.evs.length (t3s v.book.evs) ∧ w'.ownsRow w.heap.size 67 3 (.slice R' v.rights.length d') v.rights.length (t3s v.rights) ∧ Below w.heap.size w w' := by
  have hB := Below.refl w.heap.size w
  have h1 := fun (W : World) (hb : Below w.heap.size w W) => toBook_any A c v.book W (h.below hb) (by omega)
  have h2 := fun (W : World) (hb : Below w.heap.size w W) => toRightS_any R d v.rights W (h'.below hb) (by omega)
  unfold Vg.val
  unfold Bk.val at h1
  obtain ⟨⟨room, start, l, lv, ra, dr, lo⟩, rs⟩ := v
  simp only at h h' hs h1 h2 ⊢
  have H1 := Lib.hid h1
  have H2 := Lib.hid h2
  clear h1 h2
  go_enter Tryd.func16, Tryd.ntmps16
  go_wp2_with fail
  first | refine name_world ?_ | refine name_wp ?_
  intro W1 hW
  replace hB : Below w.heap.size w W1 := by rw [hW]; repeat' (first | (with_reducible exact Below.refl _ _) | (with_reducible assumption) | (with_reducible refine Below.alloc ?_ ?_ _) | (with_reducible refine Below.setCell ?_ ?_ _) | (with_reducible refine Below.drew ?_) | (with_reducible refine below_drewN ?_ _) | (refine Below.trans ?_ (Below.mono (by with_reducible assumption) ?_)) | omega | (simp; done) | (simp; omega))
  have hz_W1 : w.heap.size ≤ W1.heap.size := by rw [hW]; first | (simp; done) | (simp; omega)
  replace kb_a : Blk W1 (w.heap.size) 33 #[.int .i64 room, .int .i64 start, .slice A l.length c, .int .i64 lv, .int .i64 ra, .int .i64 dr, .int .i64 lo, .slice R rs.length d] := by rw [hW]; repeat' (first | (with_reducible assumption) | (with_reducible refine Blk.drew ?_) | (with_reducible refine Blk.drewN ?_ _) | (with_reducible refine Blk.new' _ _ _ _ ?_; (first | rfl | omega | (simp; done))) | (with_reducible exact Blk.new _ _ _) | (with_reducible refine Blk.alloc ?_ _) | (with_reducible apply Blk.set8) | (with_reducible apply Blk.set7of8) | (with_reducible apply Blk.setlast8) | (with_reducible apply Blk.set7) | (with_reducible apply Blk.set2) | (with_reducible apply Blk.set3) | (with_reducible refine Blk.far ?_ ?_ _) | (simp; done) | (simp; omega) | (dsimp only; omega))
  have hLW1_a := kb_a.lt
  replace kb_r : Blk W1 (w.heap.size + 1) 41 #[.int .i64 0, .int .i64 0, .slice none 0 0, .int .i64 0, .int .i64 0, .int .i64 0, .int .i64 0, .slice none 0 0] := by rw [hW]; repeat' (first | (with_reducible assumption) | (with_reducible refine Blk.drew ?_) | (with_reducible refine Blk.drewN ?_ _) | (with_reducible refine Blk.new' _ _ _ _ ?_; (first | rfl | omega | (simp; done))) | (with_reducible exact Blk.new _ _ _) | (with_reducible refine Blk.alloc ?_ _) | (with_reducible apply Blk.set8) | (with_reducible apply Blk.set7of8) | (with_reducible apply Blk.setlast8) | (with_reducible apply Blk.set7) | (with_reducible apply Blk.set2) | (with_reducible apply Blk.set3) | (with_reducible refine Blk.far ?_ ?_ _) | (simp; done) | (simp; omega) | (dsimp only; omega))
  have hLW1_r := kb_r.lt
  replace kb_o : Blk W1 (w.heap.size + 2) 41 #[.int .i64 0, .int .i64 0, .slice none 0 0, .int .i64 0, .int .i64 0, .int .i64 0, .int .i64 0, .slice none 0 0] := by rw [hW]; repeat' (first | (with_reducible assumption) | (with_reducible refine Blk.drew ?_) | (with_reducible refine Blk.drewN ?_ _) | (with_reducible refine Blk.new' _ _ _ _ ?_; (first | rfl | omega | (simp; done))) | (with_reducible exact Blk.new _ _ _) | (with_reducible refine Blk.alloc ?_ _) | (with_reducible apply Blk.set8) | (with_reducible apply Blk.set7of8) | (with_reducible apply Blk.setlast8) | (with_reducible apply Blk.set7) | (with_reducible apply Blk.set2) | (with_reducible apply Blk.set3) | (with_reducible refine Blk.far ?_ ?_ _) | (simp; done) | (simp; omega) | (dsimp only; omega))
  have hLW1_o := kb_o.lt
  try clear kc_a kf_a
  try clear kc_r kf_r
  try clear kc_o kf_o
  clear hW
  refine (H1.out _ hB).mono ?_
  rintro e w1 ⟨A1, c1, rfl, ho1, hb⟩
  have hr_e := Row2.born ho1
  clear ho1
  replace hB := hB.trans (Below.mono hb hB.size)
  have hz_w1 : W1.heap.size ≤ w1.heap.size := Below.size hb
  replace kb_a := Blk.below kb_a hb (by first | exact kb_a.lt | (have := kb_a.lt; omega))
  have kc_a := kb_a.cells
  have kf_a := kb_a.frozens
  have hl_a := kb_a.lt
  have hn_a := Nat.ne_of_lt kb_a.lt
  replace kb_r := Blk.below kb_r hb (by first | exact kb_r.lt | (have := kb_r.lt; omega))
  have kc_r := kb_r.cells
  have kf_r := kb_r.frozens
  have hl_r := kb_r.lt
  have hn_r := Nat.ne_of_lt kb_r.lt
  replace kb_o := Blk.below kb_o hb (by first | exact kb_o.lt | (have := kb_o.lt; omega))
  have kc_o := kb_o.cells
  have kf_o := kb_o.frozens
  have hl_o := kb_o.lt
  have hn_o := Nat.ne_of_lt kb_o.lt
  clear hb
  go_wp2_with fail
  first | refine name_world ?_ | refine name_wp ?_
  intro W2 hW
  replace hB : Below w.heap.size w W2 := by rw [hW]; repeat' (first | (with_reducible exact Below.refl _ _) | (with_reducible assumption) | (with_reducible refine Below.alloc ?_ ?_ _) | (with_reducible refine Below.setCell ?_ ?_ _) | (with_reducible refine Below.drew ?_) | (with_reducible refine below_drewN ?_ _) | (refine Below.trans ?_ (Below.mono (by with_reducible assumption) ?_)) | omega | (simp; done) | (simp; omega))
  have hz_W2 : w1.heap.size ≤ W2.heap.size := by rw [hW]; first | (simp; done) | (simp; omega)
  replace kb_a : Blk W2 (w.heap.size) 33 #[.int .i64 room, .int .i64 start, .slice A l.length c, .int .i64 lv, .int .i64 ra, .int .i64 dr, .int .i64 lo, .slice R rs.length d] := by rw [hW]; repeat' (first | (with_reducible assumption) | (with_reducible refine Blk.drew ?_) | (with_reducible refine Blk.drewN ?_ _) | (with_reducible refine Blk.new' _ _ _ _ ?_; (first | rfl | omega | (simp; done))) | (with_reducible exact Blk.new _ _ _) | (with_reducible refine Blk.alloc ?_ _) | (with_reducible apply Blk.set8) | (with_reducible apply Blk.set7of8) | (with_reducible apply Blk.setlast8) | (with_reducible apply Blk.set7) | (with_reducible apply Blk.set2) | (with_reducible apply Blk.set3) | (with_reducible refine Blk.far ?_ ?_ _) | (simp; done) | (simp; omega) | (dsimp only; omega))
  have hLW2_a := kb_a.lt
  replace kb_r : Blk W2 (w.heap.size + 1) 41 #[.int .i64 0, .int .i64 0, .slice none 0 0, .int .i64 0, .int .i64 0, .int .i64 0, .int .i64 0, .slice none 0 0] := by rw [hW]; repeat' (first | (with_reducible assumption) | (with_reducible refine Blk.drew ?_) | (with_reducible refine Blk.drewN ?_ _) | (with_reducible refine Blk.new' _ _ _ _ ?_; (first | rfl | omega | (simp; done))) | (with_reducible exact Blk.new _ _ _) | (with_reducible refine Blk.alloc ?_ _) | (with_reducible apply Blk.set8) | (with_reducible apply Blk.set7of8) | (with_reducible apply Blk.setlast8) | (with_reducible apply Blk.set7) | (with_reducible apply Blk.set2) | (with_reducible apply Blk.set3) | (with_reducible refine Blk.far ?_ ?_ _) | (simp; done) | (simp; omega) | (dsimp only; omega))
  have hLW2_r := kb_r.lt
  replace kb_o : Blk W2 (w.heap.size + 2) 41 #[.int .i64 room, .int .i64 start, .slice A1 l.length c1, .int .i64 lv, .int .i64 ra, .int .i64 dr, .int .i64 lo, .slice none 0 0] := by rw [hW]; repeat' (first | (with_reducible assumption) | (with_reducible refine Blk.drew ?_) | (with_reducible refine Blk.drewN ?_ _) | (with_reducible refine Blk.new' _ _ _ _ ?_; (first | rfl | omega | (simp; done))) | (with_reducible exact Blk.new _ _ _) | (with_reducible refine Blk.alloc ?_ _) | (with_reducible apply Blk.set8) | (with_reducible apply Blk.set7of8) | (with_reducible apply Blk.setlast8) | (with_reducible apply Blk.set7) | (with_reducible apply Blk.set2) | (with_reducible apply Blk.set3) | (with_reducible refine Blk.far ?_ ?_ _) | (simp; done) | (simp; omega) | (dsimp only; omega))
  have hLW2_o := kb_o.lt
  replace hr_e : Row2 W2 (W1.heap.size) (w1.heap.size) 139 3 A1 (l.length) c1 (t3s l) := by rw [hW]; repeat' (first | (with_reducible assumption) | (with_reducible refine Row2.far ?_ ?_ _) | (with_reducible refine Row2.alloc ?_ _) | (with_reducible refine Row2.drewN ?_ _) | (with_reducible refine Row2.drew ?_) | (left; dsimp only; omega) | (right; dsimp only; omega))
  try clear kc_a kf_a
  try clear kc_r kf_r
  try clear kc_o kf_o
  clear hW
  refine (H2.out _ hB).mono ?_
  rintro e w2 ⟨R2, d2, rfl, ho2, hb⟩
  have hr_s := Row2.born ho2
  clear ho2
  replace hB := hB.trans (Below.mono hb hB.size)
  have hz_w2 : W2.heap.size ≤ w2.heap.size := Below.size hb
  replace kb_a := Blk.below kb_a hb (by first | exact kb_a.lt | (have := kb_a.lt; omega))
  have kc_a := kb_a.cells
  have kf_a := kb_a.frozens
  have hl_a := kb_a.lt
  have hn_a := Nat.ne_of_lt kb_a.lt
  replace kb_r := Blk.below kb_r hb (by first | exact kb_r.lt | (have := kb_r.lt; omega))
  have kc_r := kb_r.cells
  have kf_r := kb_r.frozens
  have hl_r := kb_r.lt
  have hn_r := Nat.ne_of_lt kb_r.lt
  replace kb_o := Blk.below kb_o hb (by first | exact kb_o.lt | (have := kb_o.lt; omega))
  have kc_o := kb_o.cells
  have kf_o := kb_o.frozens
  have hl_o := kb_o.lt
  have hn_o := Nat.ne_of_lt kb_o.lt
  replace hr_e := Row2.below hr_e hb (by omega)
  clear hb
  go_wp2_with fail
  refine bodyPost_ret (v := .agg #[.int .i64 room, .int .i64 start, .slice A1 l.length c1, .int .i64 lv, .int .i64 ra, .int .i64 dr, .int .i64 lo, .slice R2 rs.length d2]) ?_ rfl ?_
  · simp [results, Tryd.results16, go_sem, kc_a, kc_r, kc_o]
  · refine ⟨A1, c1, R2, d2, rfl, (Row2.mono (lo := W1.heap.size) (hi := w1.heap.size) (hi' := w1.heap.size) (by repeat' (first | (with_reducible assumption) | (with_reducible refine Row2.far ?_ ?_ _) | (with_reducible refine Row2.alloc ?_ _) | (with_reducible refine Row2.drewN ?_ _) | (with_reducible refine Row2.drew ?_) | (left; dsimp only; omega) | (right; dsimp only; omega))) (by omega) (Nat.le_refl _)).1, (Row2.mono (lo := W2.heap.size) (hi := w2.heap.size) (hi' := w2.heap.size) (by repeat' (first | (with_reducible assumption) | (with_reducible refine Row2.far ?_ ?_ _) | (with_reducible refine Row2.alloc ?_ _) | (with_reducible refine Row2.drewN ?_ _) | (with_reducible refine Row2.drew ?_) | (left; dsimp only; omega) | (right; dsimp only; omega))) (by omega) (Nat.le_refl _)).1, by repeat' (first | (with_reducible exact Below.refl _ _) | (with_reducible assumption) | (with_reducible refine Below.alloc ?_ ?_ _) | (with_reducible refine Below.setCell ?_ ?_ _) | (with_reducible refine Below.drew ?_) | (with_reducible refine below_drewN ?_ _) | (refine Below.trans ?_ (Below.mono (by with_reducible assumption) ?_)) | omega | (simp; done) | (simp; omega))⟩
end Go.Proofs.YtbkgofjajhplpaaDoor
