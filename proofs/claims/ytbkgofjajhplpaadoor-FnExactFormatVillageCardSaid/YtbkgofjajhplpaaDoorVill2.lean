/- Villages: the law side's helpers, copies, opening. -/
import Derived.Test.YtbkgofjajhplpaaDoorVillage
namespace Go.Proofs.YtbkgofjajhplpaaDoor
set_option linter.unusedSimpArgs false
set_option linter.unusedVariables false
open Go.RowKit
set_option maxRecDepth 20000
theorem own_ne_type {w : World} {base1 base2 : Nat} {e1 e2 : TypeId} {sz1 n1 c1 sz2 n2 c2 : Nat} {A1 A2 : Option Addr} {xs1 xs2 : List Value} (h1 : w.ownsRow base1 e1 sz1 (.slice A1 n1 c1) n1 xs1) (h2 : w.ownsRow base2 e2 sz2 (.slice A2 n2 c2) n2 xs2) (hne : e1 ≠ e2) :
    ∀ g g', (Value.slice A1 n1 c1).ownBlock = some g → (Value.slice A2 n2 c2).ownBlock = some g' → g ≠ g' := by
  intro g g' hg hg' he
  subst he
  rcases h1.2 with ⟨hn, _⟩ | ⟨b1, cap1, cur1, hv1, _, hh1, _⟩
  · rw [hn] at hg; cases hg
  rcases h2.2 with ⟨hn, _⟩ | ⟨b2, cap2, cur2, hv2, _, hh2, _⟩
  · rw [hn] at hg'; cases hg'
  rw [hv1] at hg; rw [hv2] at hg'
  simp only [Value.ownBlock, Option.some.injEq] at hg hg'
  subst hg; subst hg'
  rw [hh1] at hh2
  injection hh2 with hh2
  injection hh2 with _ ht
  exact hne ht
set_option maxHeartbeats 1600000 in
theorem eqVillage_same (A : Option Addr) (c : Nat) (R : Option Addr) (d : Nat) (A' : Option Addr) (c' : Nat) (R' : Option Addr) (d' : Nat) (v : Vg) (w : World) (h1 : RdT w w.heap.size A c v.book.evs) (h2 : RdT w w.heap.size R d v.rights) (h3 : RdT w w.heap.size A' c' v.book.evs) (h4 : RdT w w.heap.size R' d' v.rights) :
    Calls Tryd.prog 19 #[v.val A c R d, v.val A' c' R' d'] w fun e w' => e = .returned (.bool true) ∧ Below w.heap.size w w' := by
  have hB := Below.refl w.heap.size w
  have g1 := fun (W : World) (hb : Below w.heap.size w W) => eqBook_same A c A' c' v.book W (h1.below hb) (h3.below hb)
  have g2 := fun (W : World) (hb : Below w.heap.size w W) => eqRightS_same R d R' d' v.rights W (h2.below hb) (h4.below hb)
  unfold Vg.val
  unfold Bk.val at g1
  obtain ⟨⟨room, start, l, lv, ra, dr, lo⟩, rs⟩ := v
  simp only at h1 h2 h3 h4 g1 g2 ⊢
  have H1 := Lib.hid g1
  have H2 := Lib.hid g2
  clear g1 g2
  go_enter Tryd.func19, Tryd.ntmps19
  go_wp2_with fail
  first | refine name_world ?_ | refine name_wp ?_
  intro W1 hW
  replace hB : Below w.heap.size w W1 := by rw [hW]; repeat' (first | (with_reducible exact Below.refl _ _) | (with_reducible assumption) | (with_reducible refine Below.alloc ?_ ?_ _) | (with_reducible refine Below.setCell ?_ ?_ _) | (with_reducible refine Below.drew ?_) | (with_reducible refine below_drewN ?_ _) | (refine Below.trans ?_ (Below.mono (by with_reducible assumption) ?_)) | omega | (simp; done) | (simp; omega))
  have hz_W1 : w.heap.size ≤ W1.heap.size := by rw [hW]; first | (simp; done) | (simp; omega)
  replace kb_p : Blk W1 (w.heap.size) 41 #[.int .i64 room, .int .i64 start, .slice A l.length c, .int .i64 lv, .int .i64 ra, .int .i64 dr, .int .i64 lo, .slice R rs.length d] := by rw [hW]; repeat' (first | (with_reducible assumption) | (with_reducible refine Blk.drew ?_) | (with_reducible refine Blk.drewN ?_ _) | (with_reducible refine Blk.new' _ _ _ _ ?_; (first | rfl | omega | (simp; done))) | (with_reducible exact Blk.new _ _ _) | (with_reducible refine Blk.alloc ?_ _) | (with_reducible apply Blk.set8) | (with_reducible apply Blk.set7of8) | (with_reducible apply Blk.setlast8) | (with_reducible apply Blk.set7) | (with_reducible apply Blk.set2) | (with_reducible apply Blk.set3) | (with_reducible refine Blk.far ?_ ?_ _) | (simp; done) | (simp; omega) | (dsimp only; omega))
  have hLW1_p := kb_p.lt
  replace kb_q : Blk W1 (w.heap.size + 1) 41 #[.int .i64 room, .int .i64 start, .slice A' l.length c', .int .i64 lv, .int .i64 ra, .int .i64 dr, .int .i64 lo, .slice R' rs.length d'] := by rw [hW]; repeat' (first | (with_reducible assumption) | (with_reducible refine Blk.drew ?_) | (with_reducible refine Blk.drewN ?_ _) | (with_reducible refine Blk.new' _ _ _ _ ?_; (first | rfl | omega | (simp; done))) | (with_reducible exact Blk.new _ _ _) | (with_reducible refine Blk.alloc ?_ _) | (with_reducible apply Blk.set8) | (with_reducible apply Blk.set7of8) | (with_reducible apply Blk.setlast8) | (with_reducible apply Blk.set7) | (with_reducible apply Blk.set2) | (with_reducible apply Blk.set3) | (with_reducible refine Blk.far ?_ ?_ _) | (simp; done) | (simp; omega) | (dsimp only; omega))
  have hLW1_q := kb_q.lt
  try clear kc_p kf_p
  try clear kc_q kf_q
  clear hW
  refine (H1.out _ hB).mono ?_
  rintro e w1 ⟨rfl, hb⟩
  replace hB := hB.trans (Below.mono hb hB.size)
  have hz_w1 : W1.heap.size ≤ w1.heap.size := Below.size hb
  replace kb_p := Blk.below kb_p hb (by first | exact kb_p.lt | (have := kb_p.lt; omega))
  have kc_p := kb_p.cells
  have kf_p := kb_p.frozens
  have hl_p := kb_p.lt
  have hn_p := Nat.ne_of_lt kb_p.lt
  replace kb_q := Blk.below kb_q hb (by first | exact kb_q.lt | (have := kb_q.lt; omega))
  have kc_q := kb_q.cells
  have kf_q := kb_q.frozens
  have hl_q := kb_q.lt
  have hn_q := Nat.ne_of_lt kb_q.lt
  clear hb
  go_wp2_with fail
  refine (H2.out _ hB).mono ?_
  rintro e w2 ⟨rfl, hb⟩
  replace hB := hB.trans (Below.mono hb hB.size)
  have hz_w2 : w1.heap.size ≤ w2.heap.size := Below.size hb
  replace kb_p := Blk.below kb_p hb (by first | exact kb_p.lt | (have := kb_p.lt; omega))
  have kc_p := kb_p.cells
  have kf_p := kb_p.frozens
  have hl_p := kb_p.lt
  have hn_p := Nat.ne_of_lt kb_p.lt
  replace kb_q := Blk.below kb_q hb (by first | exact kb_q.lt | (have := kb_q.lt; omega))
  have kc_q := kb_q.cells
  have kf_q := kb_q.frozens
  have hl_q := kb_q.lt
  have hn_q := Nat.ne_of_lt kb_q.lt
  clear hb
  go_wp2_with fail
  go_ret
  exact ⟨rfl, hB⟩
set_option maxHeartbeats 800000 in
theorem szVillage_ok (A : Option Addr) (c : Nat) (R : Option Addr) (d : Nat) (v : Vg) (left : Int) (w : World) (h : ((v.book.evs.length + v.rights.length : Nat) : Int) ≤ left) (h2 : left ≤ 1048576) :
    Calls Tryd.prog 14 #[v.val A c R d, .int .i64 left] w fun e w' => e = .returned (.int .i64 (left - (v.book.evs.length + v.rights.length : Nat))) ∧ Below w.heap.size w w' := by
  have hB := Below.refl w.heap.size w
  have g1 := fun (W : World) => szBook_ok A c v.book left W (by omega) h2
  have g2 := fun (W : World) => szRightS_ok R d v.rights (left - v.book.evs.length) W (by omega) (by omega)
  unfold Vg.val
  unfold Bk.val at g1
  obtain ⟨⟨room, start, l, lv, ra, dr, lo⟩, rs⟩ := v
  simp only at h g1 g2 ⊢
  have H1 := Lib.hid g1
  have H2 := Lib.hid g2
  clear g1 g2
  go_enter Tryd.func14, Tryd.ntmps14
  go_wp2_with fail
  first | refine name_world ?_ | refine name_wp ?_
  intro W1 hW
  replace hB : Below w.heap.size w W1 := by rw [hW]; repeat' (first | (with_reducible exact Below.refl _ _) | (with_reducible assumption) | (with_reducible refine Below.alloc ?_ ?_ _) | (with_reducible refine Below.setCell ?_ ?_ _) | (with_reducible refine Below.drew ?_) | (with_reducible refine below_drewN ?_ _) | (refine Below.trans ?_ (Below.mono (by with_reducible assumption) ?_)) | omega | (simp; done) | (simp; omega))
  have hz_W1 : w.heap.size ≤ W1.heap.size := by rw [hW]; first | (simp; done) | (simp; omega)
  replace kb_p : Blk W1 (w.heap.size) 33 #[.int .i64 room, .int .i64 start, .slice A l.length c, .int .i64 lv, .int .i64 ra, .int .i64 dr, .int .i64 lo, .slice R rs.length d] := by rw [hW]; repeat' (first | (with_reducible assumption) | (with_reducible refine Blk.drew ?_) | (with_reducible refine Blk.drewN ?_ _) | (with_reducible refine Blk.new' _ _ _ _ ?_; (first | rfl | omega | (simp; done))) | (with_reducible exact Blk.new _ _ _) | (with_reducible refine Blk.alloc ?_ _) | (with_reducible apply Blk.set8) | (with_reducible apply Blk.set7of8) | (with_reducible apply Blk.setlast8) | (with_reducible apply Blk.set7) | (with_reducible apply Blk.set2) | (with_reducible apply Blk.set3) | (with_reducible refine Blk.far ?_ ?_ _) | (simp; done) | (simp; omega) | (dsimp only; omega))
  have hLW1_p := kb_p.lt
  try clear kc_p kf_p
  clear hW
  refine (H1.out _).mono ?_
  rintro e w1 ⟨rfl, hb⟩
  replace hB := hB.trans (Below.mono hb hB.size)
  have hz_w1 : W1.heap.size ≤ w1.heap.size := Below.size hb
  replace kb_p := Blk.below kb_p hb (by first | exact kb_p.lt | (have := kb_p.lt; omega))
  have kc_p := kb_p.cells
  have kf_p := kb_p.frozens
  have hl_p := kb_p.lt
  have hn_p := Nat.ne_of_lt kb_p.lt
  clear hb
  go_wp2_with fail
  refine (H2.out _).mono ?_
  rintro e w2 ⟨rfl, hb⟩
  replace hB := hB.trans (Below.mono hb hB.size)
  have hz_w2 : w1.heap.size ≤ w2.heap.size := Below.size hb
  clear hb
  go_wp2_with fail
  go_ret
  exact ⟨ret_int (by omega), hB⟩
set_option maxHeartbeats 800000 in
theorem szVillage_big (A : Option Addr) (c : Nat) (R : Option Addr) (d : Nat) (v : Vg) (left : Int) (w : World) (h : left < ((v.book.evs.length + v.rights.length : Nat) : Int)) (h1 : 0 ≤ left) (h2 : left ≤ 1048576) (h3 : v.book.evs.length ≤ 9223372036854775807) (h4 : v.rights.length ≤ 9223372036854775807) :
    Calls Tryd.prog 14 #[v.val A c R d, .int .i64 left] w fun e w' => e = .returned (.int .i64 (-1)) ∧ Below w.heap.size w w' := by
  have hB := Below.refl w.heap.size w
  by_cases hc : (v.book.evs.length : Int) ≤ left
  · have g1 := fun (W : World) => szBook_ok A c v.book left W (by omega) h2
    have g2 := fun (W : World) => szRightS_big R d v.rights (left - v.book.evs.length) W (by omega) (by omega) h4
    unfold Vg.val
    unfold Bk.val at g1
    obtain ⟨⟨room, start, l, lv, ra, dr, lo⟩, rs⟩ := v
    simp only at h hc g1 g2 h3 h4 ⊢
    have H1 := Lib.hid g1
    have H2 := Lib.hid g2
    clear g1 g2
    go_enter Tryd.func14, Tryd.ntmps14
    go_wp2_with fail
    first | refine name_world ?_ | refine name_wp ?_
    intro W1 hW
    replace hB : Below w.heap.size w W1 := by rw [hW]; repeat' (first | (with_reducible exact Below.refl _ _) | (with_reducible assumption) | (with_reducible refine Below.alloc ?_ ?_ _) | (with_reducible refine Below.setCell ?_ ?_ _) | (with_reducible refine Below.drew ?_) | (with_reducible refine below_drewN ?_ _) | (refine Below.trans ?_ (Below.mono (by with_reducible assumption) ?_)) | omega | (simp; done) | (simp; omega))
    have hz_W1 : w.heap.size ≤ W1.heap.size := by rw [hW]; first | (simp; done) | (simp; omega)
    replace kb_p : Blk W1 (w.heap.size) 33 #[.int .i64 room, .int .i64 start, .slice A l.length c, .int .i64 lv, .int .i64 ra, .int .i64 dr, .int .i64 lo, .slice R rs.length d] := by rw [hW]; repeat' (first | (with_reducible assumption) | (with_reducible refine Blk.drew ?_) | (with_reducible refine Blk.drewN ?_ _) | (with_reducible refine Blk.new' _ _ _ _ ?_; (first | rfl | omega | (simp; done))) | (with_reducible exact Blk.new _ _ _) | (with_reducible refine Blk.alloc ?_ _) | (with_reducible apply Blk.set8) | (with_reducible apply Blk.set7of8) | (with_reducible apply Blk.setlast8) | (with_reducible apply Blk.set7) | (with_reducible apply Blk.set2) | (with_reducible apply Blk.set3) | (with_reducible refine Blk.far ?_ ?_ _) | (simp; done) | (simp; omega) | (dsimp only; omega))
    have hLW1_p := kb_p.lt
    try clear kc_p kf_p
    clear hW
    refine (H1.out _).mono ?_
    rintro e w1 ⟨rfl, hb⟩
    replace hB := hB.trans (Below.mono hb hB.size)
    have hz_w1 : W1.heap.size ≤ w1.heap.size := Below.size hb
    replace kb_p := Blk.below kb_p hb (by first | exact kb_p.lt | (have := kb_p.lt; omega))
    have kc_p := kb_p.cells
    have kf_p := kb_p.frozens
    have hl_p := kb_p.lt
    have hn_p := Nat.ne_of_lt kb_p.lt
    clear hb
    go_wp2_with fail
    refine (H2.out _).mono ?_
    rintro e w2 ⟨rfl, hb⟩
    replace hB := hB.trans (Below.mono hb hB.size)
    have hz_w2 : w1.heap.size ≤ w2.heap.size := Below.size hb
    clear hb
    go_wp2_with fail
    go_ret
    exact ⟨rfl, hB⟩
  · have g1 := fun (W : World) => szBook_big A c v.book left W (by omega) (by omega) h3
    unfold Vg.val
    unfold Bk.val at g1
    obtain ⟨⟨room, start, l, lv, ra, dr, lo⟩, rs⟩ := v
    simp only at h hc g1 h3 h4 ⊢
    have H1 := Lib.hid g1
    clear g1
    go_enter Tryd.func14, Tryd.ntmps14
    go_wp2_with fail
    first | refine name_world ?_ | refine name_wp ?_
    intro W1 hW
    replace hB : Below w.heap.size w W1 := by rw [hW]; repeat' (first | (with_reducible exact Below.refl _ _) | (with_reducible assumption) | (with_reducible refine Below.alloc ?_ ?_ _) | (with_reducible refine Below.setCell ?_ ?_ _) | (with_reducible refine Below.drew ?_) | (with_reducible refine below_drewN ?_ _) | (refine Below.trans ?_ (Below.mono (by with_reducible assumption) ?_)) | omega | (simp; done) | (simp; omega))
    have hz_W1 : w.heap.size ≤ W1.heap.size := by rw [hW]; first | (simp; done) | (simp; omega)
    replace kb_p : Blk W1 (w.heap.size) 33 #[.int .i64 room, .int .i64 start, .slice A l.length c, .int .i64 lv, .int .i64 ra, .int .i64 dr, .int .i64 lo, .slice R rs.length d] := by rw [hW]; repeat' (first | (with_reducible assumption) | (with_reducible refine Blk.drew ?_) | (with_reducible refine Blk.drewN ?_ _) | (with_reducible refine Blk.new' _ _ _ _ ?_; (first | rfl | omega | (simp; done))) | (with_reducible exact Blk.new _ _ _) | (with_reducible refine Blk.alloc ?_ _) | (with_reducible apply Blk.set8) | (with_reducible apply Blk.set7of8) | (with_reducible apply Blk.setlast8) | (with_reducible apply Blk.set7) | (with_reducible apply Blk.set2) | (with_reducible apply Blk.set3) | (with_reducible refine Blk.far ?_ ?_ _) | (simp; done) | (simp; omega) | (dsimp only; omega))
    have hLW1_p := kb_p.lt
    try clear kc_p kf_p
    clear hW
    refine (H1.out _).mono ?_
    rintro e w1 ⟨rfl, hb⟩
    replace hB := hB.trans (Below.mono hb hB.size)
    have hz_w1 : W1.heap.size ≤ w1.heap.size := Below.size hb
    clear hb
    go_wp2_with fail
    go_ret
    exact ⟨rfl, hB⟩
theorem grownBy_of_alloc {w w' : World} {o : Obj} {row : Option Nat} (h : (w.alloc o).grownBy w' row) : w.grownBy w' row :=
  ⟨h.os, h.tape, h.output, by have := h.size; simp at this; omega, fun k hk hn => (h.block k (by simp; omega) hn).trans (Below.heap_alloc w o k hk)⟩
theorem Row2.chg_type {w w' : World} {lo hi lo' : Nat} {e e' : TypeId} {sz sz' n c n' c' : Nat} {A A' : Option Addr} {xs xs' : List Value} (h : Row2 w lo hi e sz A n c xs) (h' : w.ownsRow lo' e' sz' (.slice A' n' c') n' xs') (hne : e ≠ e') (hg : w.grownBy w' (Value.slice A' n' c').ownBlock) : Row2 w' lo hi e sz A n c xs :=
  h.same fun g hgg => hg.block g (h.1.lt g hgg).2 fun he => own_ne_type h.1 h' hne g g hgg he.symm rfl
set_option maxHeartbeats 800000 in
theorem markBook_g (A : Option Addr) (c base : Nat) (b : Bk) (k : Nat) (kz : Int) (hk : kz = k) (w : World) (h : w.ownsRow base 139 3 (.slice A b.evs.length c) b.evs.length (t3s b.evs)) (hs : 3 * b.evs.length + k ≤ 1048576 * 64) :
    Calls Tryd.prog 54 #[b.val A c, .int .i64 kz] w fun e w' => e = .returned (.int .i64 (kz + 3 * b.evs.length)) ∧ w'.ownsRow base 139 3 (.slice A b.evs.length c) b.evs.length (t3s (marksT k b.evs.length)) ∧ w.grownBy w' (Value.slice A b.evs.length c).ownBlock := by
  have hcall := fun (W : World) (h : W.ownsRow base 139 3 (.slice A b.evs.length c) b.evs.length (t3s b.evs)) => markEventS_any A c base b.evs k W h (by omega) (by omega)
  obtain ⟨room, start, l, lv, ra, dr, lo'⟩ := b
  unfold Bk.val
  simp only at h hcall hs ⊢
  subst hk
  have HCALL := Lib.hid hcall; clear hcall
  have HH := Lib.hid h; clear h
  go_enter Tryd.func54, Tryd.ntmps54
  go_wp2_with fail
  refine (HCALL.out _ (HH.out.alloc _)).mono ?_
  rintro e w1 ⟨rfl, h1, hg1⟩
  go_wp2_with fail
  go_ret
  exact ⟨ret_int (by omega), h1, grownBy_of_alloc hg1⟩
set_option maxHeartbeats 800000 in
theorem markVillage_2 (A : Option Addr) (c : Nat) (R : Option Addr) (d lo hi : Nat) (v : Vg) (k : Nat) (kz : Int) (hk : kz = k) (w : World) (h : Row2 w lo hi 139 3 A v.book.evs.length c (t3s v.book.evs)) (h' : Row2 w lo hi 67 3 R v.rights.length d (t3s v.rights)) (hs : 3 * v.book.evs.length + 3 * v.rights.length + k ≤ 1048576 * 64) :
    Calls Tryd.prog 20 #[v.val A c R d, .int .i64 kz] w fun e w' => e = .returned (.int .i64 (kz + (3 * v.book.evs.length + 3 * v.rights.length))) ∧ Row2 w' lo hi 139 3 A v.book.evs.length c (t3s (marksT k v.book.evs.length)) ∧ Row2 w' lo hi 67 3 R v.rights.length d (t3s (marksT (k + 3 * v.book.evs.length) v.rights.length)) ∧ Chg lo hi w w' := by
  have g1 := fun (W : World) (h : W.ownsRow lo 139 3 (.slice A v.book.evs.length c) v.book.evs.length (t3s v.book.evs)) => markBook_g A c lo v.book k kz hk W h (by omega)
  have g2 := fun (W : World) (h : W.ownsRow lo 67 3 (.slice R v.rights.length d) v.rights.length (t3s v.rights)) => markRightS_any R d lo v.rights (k + 3 * v.book.evs.length) W h (by omega) (by omega)
  unfold Vg.val
  unfold Bk.val at g1
  obtain ⟨⟨room, start, l, lv, ra, dr, lo'⟩, rs⟩ := v
  simp only at h h' hs g1 g2 ⊢
  have ek : ((k + 3 * l.length : Nat) : Int) = kz + 3 * (l.length : Int) := by omega
  rw [ek] at g2
  clear ek
  have H1 := Lib.hid g1
  have H2 := Lib.hid g2
  have HH := Lib.hid (And.intro h h')
  have HK := Lib.hid hk
  clear g1 g2 h h' hk
  go_enter Tryd.func20, Tryd.ntmps20
  go_wp2_with fail
  refine name_world ?_
  intro W hW
  have HR1 : Row2 W lo hi 139 3 A l.length c (t3s l) := by rw [hW]; exact HH.out.1.alloc _
  have HR2 : Row2 W lo hi 67 3 R rs.length d (t3s rs) := by rw [hW]; exact HH.out.2.alloc _
  have hC0 : Chg lo hi w W := by rw [hW]; exact (Chg.refl lo hi _).of_alloc _
  have kb : Blk W w.heap.size 41 #[.int .i64 room, .int .i64 start, .slice A l.length c, .int .i64 lv, .int .i64 ra, .int .i64 dr, .int .i64 lo', .slice R rs.length d] := by rw [hW]; repeat' (first | (with_reducible assumption) | (with_reducible refine Blk.drew ?_) | (with_reducible refine Blk.drewN ?_ _) | (with_reducible refine Blk.new' _ _ _ _ ?_; (first | rfl | omega | (simp; done))) | (with_reducible exact Blk.new _ _ _) | (with_reducible refine Blk.alloc ?_ _) | (with_reducible apply Blk.set8) | (with_reducible apply Blk.set7of8) | (with_reducible apply Blk.setlast8) | (with_reducible apply Blk.set7) | (with_reducible apply Blk.set2) | (with_reducible apply Blk.set3) | (with_reducible refine Blk.far ?_ ?_ _) | (simp; done) | (simp; omega) | (dsimp only; omega))
  clear hW
  have hne : ∀ g, (Value.slice A l.length c).ownBlock = some g → w.heap.size ≠ g := fun g hg he => absurd hg (by
    have := (HH.out.1.1.lt g hg).2
    omega)
  refine (H1.out _ HR1.1).mono ?_
  rintro e w1 ⟨rfl, ho1, hg1⟩
  have hr1 : Row2 w1 lo hi 139 3 A l.length c (t3s (marksT k l.length)) := ⟨ho1, HR1.2⟩
  have hr2 := HR2.chg_type HR1.1 (by decide) hg1
  have hC1 := hC0.trans (HR1.wrote hg1)
  have kb1 : Blk w1 w.heap.size 41 _ := kb.grown hg1 (fun he => hne _ he.symm rfl)
  have kc := kb1.cells
  clear kb kb1 hg1 ho1 HR1 HR2 hC0 hne
  have HC := Lib.hid (And.intro hr1 (And.intro hr2 hC1))
  clear hr1 hr2 hC1
  go_wp2_with fail
  refine (H2.out _ HC.out.2.1.1).mono ?_
  rintro e w2 ⟨rfl, ho2, hg2⟩
  have hr2 : Row2 w2 lo hi 67 3 R rs.length d (t3s (marksT (k + 3 * l.length) rs.length)) := ⟨ho2, HC.out.2.1.2⟩
  have hr1 := HC.out.1.chg_type HC.out.2.1.1 (by decide) hg2
  have hC2 := HC.out.2.2.trans (HC.out.2.1.wrote hg2)
  have HD := Lib.hid (And.intro hr1 (And.intro hr2 hC2))
  clear hr1 hr2 hC2 ho2 hg2
  go_wp2_with fail
  go_ret
  exact ⟨ret_int (by have := HK.out; omega), HD.out⟩
end Go.Proofs.YtbkgofjajhplpaaDoor
