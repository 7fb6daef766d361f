/- Villages: shares sold. -/
import Derived.Test.YtdmgdkeichlccaaVillEnter
import Derived.Test.YtdmgdkeichlccaaSell
import Derived.Test.YtdmgdkeichlccaaSellS
namespace Go.Proofs.Ytdmgdkeichlccaa
set_option linter.unusedSimpArgs false
set_option linter.unusedVariables false
open Go.RowKit
set_option maxRecDepth 20000
def vSell (v : Vg) (f t a b : Int) : Vg × Bool := if villageOk v then (⟨v.book, (sellF v.rights f t a b).1⟩, (sellF v.rights f t a b).2) else (v, false)
set_option maxHeartbeats 3200000 in
theorem vSell_any (A : Option Addr) (c : Nat) (R : Option Addr) (d : Nat) (v : Vg) (f t a b : Int) (w : World) (h : RdT w w.heap.size A c v.book.evs) (h' : RdT w w.heap.size R d v.rights) (hs : v.book.evs.length ≤ 1048576) (hs' : v.rights.length ≤ 1048576) :
    Calls Try.prog 25 #[v.val A c R d, .int .i64 f, .int .i64 t, .agg #[.int .i64 a, .int .i64 b]] w (VgRet (vSell v f t a b) w) := by
  have hB := Below.refl w.heap.size w
  have h1 := fun (W : World) (hb : Below w.heap.size w W) => copyVillage_any A c R d v W (h.below hb) (h'.below hb) hs hs'
  have h2 := fun (W : World) (hb : Below w.heap.size w W) => VillageOk_any A c R d v W (h.below hb) (h'.below hb) hs
  have h3 := fun (W : World) (hb : Below w.heap.size w W) => SellShare_any R d v.rights f t a b W (h'.below hb) hs'
  cases hv : villageOk v
  · have hst : vSell v f t a b = (v, false) := by unfold vSell; rw [hv]; rfl
    rw [hst]
    rw [hv] at h2
    unfold VgRet
    unfold VgOwn at h1
    unfold Vg.val at h1 h2 ⊢
    obtain ⟨⟨room, start, l, lv, ra, dr, lo⟩, rs⟩ := v
    simp only at h h' hs hs' h1 h2 ⊢
    have H1 := Lib.hid h1
    have H2 := Lib.hid h2
    clear h1 h2 h3 hv hst
    go_enter Try.func25, Try.ntmps25
    go_wp2_with fail
    first | refine name_world ?_ | refine name_wp ?_
    intro W1 hW
    replace hB : Below w.heap.size w W1 := by rw [hW]; exact tacT
    have hz_W1 : w.heap.size ≤ W1.heap.size := by rw [hW]; first | (simp; done) | (simp; omega)
    replace kb_p : Blk W1 (w.heap.size) 29 #[.int .i64 room, .int .i64 start, .slice A l.length c, .int .i64 lv, .int .i64 ra, .int .i64 dr, .int .i64 lo, .slice R rs.length d] := by rw [hW]; exact blkT
    have hLW1_p := kb_p.lt
    replace kb_r : Blk W1 (w.heap.size + 2) 29 #[.int .i64 0, .int .i64 0, .slice none 0 0, .int .i64 0, .int .i64 0, .int .i64 0, .int .i64 0, .slice none 0 0] := by rw [hW]; exact blkT
    have hLW1_r := kb_r.lt
    try clear kc_p kf_p
    try clear kc_r kf_r
    clear hW
    refine (H1.out _ hB).mono ?_
    rintro e w1 ⟨A1, c1, R1, d1, rfl, ⟨ho1, ho2⟩, hb⟩
    have hr_e := Row2.born ho1
    have hr_s := Row2.born ho2
    clear ho1 ho2
    replace hB := hB.trans (Below.mono hb hB.size)
    have hz_w1 : W1.heap.size ≤ w1.heap.size := Below.size hb
    replace kb_p := Blk.below kb_p hb (by first | exact kb_p.lt | (have := kb_p.lt; omega))
    have kc_p := kb_p.cells
    have kf_p := kb_p.frozens
    have hl_p := kb_p.lt
    have hn_p := Nat.ne_of_lt kb_p.lt
    replace kb_r := Blk.below kb_r hb (by first | exact kb_r.lt | (have := kb_r.lt; omega))
    have kc_r := kb_r.cells
    have kf_r := kb_r.frozens
    have hl_r := kb_r.lt
    have hn_r := Nat.ne_of_lt kb_r.lt
    clear hb
    go_wp2_with fail
    first | refine name_world ?_ | refine name_wp ?_
    intro W2 hW
    replace hB : Below w.heap.size w W2 := by rw [hW]; exact tacT
    have hz_W2 : w1.heap.size ≤ W2.heap.size := by rw [hW]; first | (simp; done) | (simp; omega)
    replace kb_p : Blk W2 (w.heap.size) 29 #[.int .i64 room, .int .i64 start, .slice A l.length c, .int .i64 lv, .int .i64 ra, .int .i64 dr, .int .i64 lo, .slice R rs.length d] := by rw [hW]; exact blkT
    have hLW2_p := kb_p.lt
    replace kb_r : Blk W2 (w.heap.size + 2) 29 #[.int .i64 0, .int .i64 0, .slice none 0 0, .int .i64 0, .int .i64 0, .int .i64 0, .int .i64 0, .slice none 0 0] := by rw [hW]; exact blkT
    have hLW2_r := kb_r.lt
    replace kb_o : Blk W2 (w1.heap.size) 29 #[.int .i64 room, .int .i64 start, .slice A1 l.length c1, .int .i64 lv, .int .i64 ra, .int .i64 dr, .int .i64 lo, .slice R1 rs.length d1] := by rw [hW]; exact blkT
    have hLW2_o := kb_o.lt
    replace hr_e : Row2 W2 (W1.heap.size) (w1.heap.size) 66 3 A1 (l.length) c1 (t3s l) := by rw [hW]; exact rowT
    replace hr_s : Row2 W2 (W1.heap.size) (w1.heap.size) 51 3 R1 (rs.length) d1 (t3s rs) := by rw [hW]; exact rowT
    try clear kc_p kf_p
    try clear kc_r kf_r
    try clear kc_o kf_o
    clear hW
    refine (H2.out _ hB).mono ?_
    rintro e w2 ⟨rfl, hb⟩
    replace hB := hB.trans (Below.mono hb hB.size)
    have hz_w2 : W2.heap.size ≤ w2.heap.size := Below.size hb
    replace kb_p := Blk.below kb_p hb (by first | exact kb_p.lt | (have := kb_p.lt; omega))
    have kc_p := kb_p.cells
    have kf_p := kb_p.frozens
    have hl_p := kb_p.lt
    have hn_p := Nat.ne_of_lt kb_p.lt
    replace kb_r := Blk.below kb_r hb (by first | exact kb_r.lt | (have := kb_r.lt; omega))
    have kc_r := kb_r.cells
    have kf_r := kb_r.frozens
    have hl_r := kb_r.lt
    have hn_r := Nat.ne_of_lt kb_r.lt
    replace kb_o := Blk.below kb_o hb (by first | exact kb_o.lt | (have := kb_o.lt; omega))
    have kc_o := kb_o.cells
    have kf_o := kb_o.frozens
    have hl_o := kb_o.lt
    have hn_o := Nat.ne_of_lt kb_o.lt
    replace hr_e := Row2.below hr_e hb (by omega)
    replace hr_s := Row2.below hr_s hb (by omega)
    clear hb
    go_wp2_with fail
    refine bodyPost_ret (v := .tuple #[.agg #[.int .i64 room, .int .i64 start, .slice A1 l.length c1, .int .i64 lv, .int .i64 ra, .int .i64 dr, .int .i64 lo, .slice R1 rs.length d1], .bool false]) ?_ rfl ?_
    · simp [results, Try.results25, go_sem, kc_r, kc_o]
    · exact ⟨A1, c1, R1, d1, rfl, (Row2.mono (lo := W1.heap.size) (hi := w1.heap.size) (hi' := w1.heap.size) (by exact rowT) (by omega) (Nat.le_refl _)).1, (Row2.mono (lo := W1.heap.size) (hi := w1.heap.size) (hi' := w1.heap.size) (by exact rowT) (by omega) (Nat.le_refl _)).1, by exact tacT⟩
  · have hst : vSell v f t a b = (⟨v.book, (sellF v.rights f t a b).1⟩, (sellF v.rights f t a b).2) := by unfold vSell; rw [hv]; rfl
    rw [hst]
    rw [hv] at h2
    unfold SellRet at h3
    obtain ⟨⟨rs', ok⟩, hE⟩ : ∃ r, sellF v.rights f t a b = r := ⟨_, rfl⟩
    rw [hE] at h3 ⊢
    unfold VgRet
    unfold VgOwn at h1
    unfold Vg.val at h1 h2 ⊢
    obtain ⟨⟨room, start, l, lv, ra, dr, lo⟩, rs⟩ := v
    simp only at h h' hs hs' h1 h2 h3 ⊢
    have H1 := Lib.hid h1
    have H2 := Lib.hid h2
    have H3 := Lib.hid h3
    clear h1 h2 h3 hv hst hE
    go_enter Try.func25, Try.ntmps25
    go_wp2_with fail
    first | refine name_world ?_ | refine name_wp ?_
    intro W1 hW
    replace hB : Below w.heap.size w W1 := by rw [hW]; exact tacT
    have hz_W1 : w.heap.size ≤ W1.heap.size := by rw [hW]; first | (simp; done) | (simp; omega)
    replace kb_p : Blk W1 (w.heap.size) 29 #[.int .i64 room, .int .i64 start, .slice A l.length c, .int .i64 lv, .int .i64 ra, .int .i64 dr, .int .i64 lo, .slice R rs.length d] := by rw [hW]; exact blkT
    have hLW1_p := kb_p.lt
    replace kb_q : Blk W1 (w.heap.size + 1) 41 #[.int .i64 a, .int .i64 b] := by rw [hW]; exact blkT
    have hLW1_q := kb_q.lt
    replace kb_r : Blk W1 (w.heap.size + 2) 29 #[.int .i64 0, .int .i64 0, .slice none 0 0, .int .i64 0, .int .i64 0, .int .i64 0, .int .i64 0, .slice none 0 0] := by rw [hW]; exact blkT
    have hLW1_r := kb_r.lt
    try clear kc_p kf_p
    try clear kc_q kf_q
    try clear kc_r kf_r
    clear hW
    refine (H1.out _ hB).mono ?_
    rintro e w1 ⟨A1, c1, R1, d1, rfl, ⟨ho1, ho2⟩, hb⟩
    have hr_e := Row2.born ho1
    clear ho1 ho2
    replace hB := hB.trans (Below.mono hb hB.size)
    have hz_w1 : W1.heap.size ≤ w1.heap.size := Below.size hb
    replace kb_p := Blk.below kb_p hb (by first | exact kb_p.lt | (have := kb_p.lt; omega))
    have kc_p := kb_p.cells
    have kf_p := kb_p.frozens
    have hl_p := kb_p.lt
    have hn_p := Nat.ne_of_lt kb_p.lt
    replace kb_q := Blk.below kb_q hb (by first | exact kb_q.lt | (have := kb_q.lt; omega))
    have kc_q := kb_q.cells
    have kf_q := kb_q.frozens
    have hl_q := kb_q.lt
    have hn_q := Nat.ne_of_lt kb_q.lt
    replace kb_r := Blk.below kb_r hb (by first | exact kb_r.lt | (have := kb_r.lt; omega))
    have kc_r := kb_r.cells
    have kf_r := kb_r.frozens
    have hl_r := kb_r.lt
    have hn_r := Nat.ne_of_lt kb_r.lt
    clear hb
    go_wp2_with fail
    first | refine name_world ?_ | refine name_wp ?_
    intro W2 hW
    replace hB : Below w.heap.size w W2 := by rw [hW]; exact tacT
    have hz_W2 : w1.heap.size ≤ W2.heap.size := by rw [hW]; first | (simp; done) | (simp; omega)
    replace kb_p : Blk W2 (w.heap.size) 29 #[.int .i64 room, .int .i64 start, .slice A l.length c, .int .i64 lv, .int .i64 ra, .int .i64 dr, .int .i64 lo, .slice R rs.length d] := by rw [hW]; exact blkT
    have hLW2_p := kb_p.lt
    replace kb_q : Blk W2 (w.heap.size + 1) 41 #[.int .i64 a, .int .i64 b] := by rw [hW]; exact blkT
    have hLW2_q := kb_q.lt
    replace kb_r : Blk W2 (w.heap.size + 2) 29 #[.int .i64 0, .int .i64 0, .slice none 0 0, .int .i64 0, .int .i64 0, .int .i64 0, .int .i64 0, .slice none 0 0] := by rw [hW]; exact blkT
    have hLW2_r := kb_r.lt
    replace kb_o : Blk W2 (w1.heap.size) 29 #[.int .i64 room, .int .i64 start, .slice A1 l.length c1, .int .i64 lv, .int .i64 ra, .int .i64 dr, .int .i64 lo, .slice R1 rs.length d1] := by rw [hW]; exact blkT
    have hLW2_o := kb_o.lt
    replace hr_e : Row2 W2 (W1.heap.size) (w1.heap.size) 66 3 A1 (l.length) c1 (t3s l) := by rw [hW]; exact rowT
    try clear kc_p kf_p
    try clear kc_q kf_q
    try clear kc_r kf_r
    try clear kc_o kf_o
    clear hW
    refine (H2.out _ hB).mono ?_
    rintro e w2 ⟨rfl, hb⟩
    replace hB := hB.trans (Below.mono hb hB.size)
    have hz_w2 : W2.heap.size ≤ w2.heap.size := Below.size hb
    replace kb_p := Blk.below kb_p hb (by first | exact kb_p.lt | (have := kb_p.lt; omega))
    have kc_p := kb_p.cells
    have kf_p := kb_p.frozens
    have hl_p := kb_p.lt
    have hn_p := Nat.ne_of_lt kb_p.lt
    replace kb_q := Blk.below kb_q hb (by first | exact kb_q.lt | (have := kb_q.lt; omega))
    have kc_q := kb_q.cells
    have kf_q := kb_q.frozens
    have hl_q := kb_q.lt
    have hn_q := Nat.ne_of_lt kb_q.lt
    replace kb_r := Blk.below kb_r hb (by first | exact kb_r.lt | (have := kb_r.lt; omega))
    have kc_r := kb_r.cells
    have kf_r := kb_r.frozens
    have hl_r := kb_r.lt
    have hn_r := Nat.ne_of_lt kb_r.lt
    replace kb_o := Blk.below kb_o hb (by first | exact kb_o.lt | (have := kb_o.lt; omega))
    have kc_o := kb_o.cells
    have kf_o := kb_o.frozens
    have hl_o := kb_o.lt
    have hn_o := Nat.ne_of_lt kb_o.lt
    replace hr_e := Row2.below hr_e hb (by omega)
    clear hb
    go_wp2_with fail
    refine (H3.out _ hB).mono ?_
    rintro e w3 ⟨R3, d3, rfl, ho3, hb⟩
    have hr_s := Row2.born ho3
    clear ho3
    replace hB := hB.trans (Below.mono hb hB.size)
    have hz_w3 : w2.heap.size ≤ w3.heap.size := Below.size hb
    replace kb_p := Blk.below kb_p hb (by first | exact kb_p.lt | (have := kb_p.lt; omega))
    have kc_p := kb_p.cells
    have kf_p := kb_p.frozens
    have hl_p := kb_p.lt
    have hn_p := Nat.ne_of_lt kb_p.lt
    replace kb_q := Blk.below kb_q hb (by first | exact kb_q.lt | (have := kb_q.lt; omega))
    have kc_q := kb_q.cells
    have kf_q := kb_q.frozens
    have hl_q := kb_q.lt
    have hn_q := Nat.ne_of_lt kb_q.lt
    replace kb_r := Blk.below kb_r hb (by first | exact kb_r.lt | (have := kb_r.lt; omega))
    have kc_r := kb_r.cells
    have kf_r := kb_r.frozens
    have hl_r := kb_r.lt
    have hn_r := Nat.ne_of_lt kb_r.lt
    replace kb_o := Blk.below kb_o hb (by first | exact kb_o.lt | (have := kb_o.lt; omega))
    have kc_o := kb_o.cells
    have kf_o := kb_o.frozens
    have hl_o := kb_o.lt
    have hn_o := Nat.ne_of_lt kb_o.lt
    replace hr_e := Row2.below hr_e hb (by omega)
    clear hb
    go_wp2_with fail
    refine bodyPost_ret (v := .tuple #[.agg #[.int .i64 room, .int .i64 start, .slice A1 l.length c1, .int .i64 lv, .int .i64 ra, .int .i64 dr, .int .i64 lo, .slice R3 rs'.length d3], .bool ok]) ?_ rfl ?_
    · simp [results, Try.results25, go_sem, kc_r, kc_o, hl_r, hn_r, hl_o, hn_o]
    · exact ⟨A1, c1, R3, d3, rfl, (Row2.mono (lo := W1.heap.size) (hi := w1.heap.size) (hi' := w1.heap.size) (by exact rowT) (by omega) (Nat.le_refl _)).1, (Row2.mono (lo := w2.heap.size) (hi := w3.heap.size) (hi' := w3.heap.size) (by exact rowT) (by omega) (Nat.le_refl _)).1, by exact tacT⟩
set_option maxHeartbeats 3200000 in
theorem vSellS_any (A : Option Addr) (c : Nat) (R : Option Addr) (d : Nat) (v : Vg) (f t a b : Int) (w : World) (h : RdT w w.heap.size A c v.book.evs) (h' : RdT w w.heap.size R d v.rights) (hs : v.book.evs.length ≤ 1048576) (hs' : v.rights.length ≤ 1048576) :
    Calls Try.prog 33 #[v.val A c R d, .int .i64 f, .int .i64 t, .agg #[.int .i64 a, .int .i64 b]] w (VgRet (vSell v f t a b) w) := by
  have hB := Below.refl w.heap.size w
  have h1 := fun (W : World) (hb : Below w.heap.size w W) => l38Copy_any A c R d v W (h.below hb) (h'.below hb) hs hs'
  have h2 := fun (W : World) (hb : Below w.heap.size w W) => VillageOkS_any A c R d v W (h.below hb) (h'.below hb) hs
  have h3 := fun (W : World) (hb : Below w.heap.size w W) => SellShareS_any R d v.rights f t a b W (h'.below hb) hs'
  cases hv : villageOk v
  · have hst : vSell v f t a b = (v, false) := by unfold vSell; rw [hv]; rfl
    rw [hst]
    rw [hv] at h2
    unfold VgRet
    unfold VgOwn at h1
    unfold Vg.val at h1 h2 ⊢
    obtain ⟨⟨room, start, l, lv, ra, dr, lo⟩, rs⟩ := v
    simp only at h h' hs hs' h1 h2 ⊢
    have H1 := Lib.hid h1
    have H2 := Lib.hid h2
    clear h1 h2 h3 hv hst
    go_enter Try.func33, Try.ntmps33
    go_wp2_with fail
    first | refine name_world ?_ | refine name_wp ?_
    intro W1 hW
    replace hB : Below w.heap.size w W1 := by rw [hW]; exact tacT
    have hz_W1 : w.heap.size ≤ W1.heap.size := by rw [hW]; first | (simp; done) | (simp; omega)
    replace kb_p : Blk W1 (w.heap.size) 29 #[.int .i64 room, .int .i64 start, .slice A l.length c, .int .i64 lv, .int .i64 ra, .int .i64 dr, .int .i64 lo, .slice R rs.length d] := by rw [hW]; exact blkT
    have hLW1_p := kb_p.lt
    replace kb_r : Blk W1 (w.heap.size + 2) 29 #[.int .i64 0, .int .i64 0, .slice none 0 0, .int .i64 0, .int .i64 0, .int .i64 0, .int .i64 0, .slice none 0 0] := by rw [hW]; exact blkT
    have hLW1_r := kb_r.lt
    try clear kc_p kf_p
    try clear kc_r kf_r
    clear hW
    refine (H1.out _ hB).mono ?_
    rintro e w1 ⟨A1, c1, R1, d1, rfl, ⟨ho1, ho2⟩, hb⟩
    have hr_e := Row2.born ho1
    have hr_s := Row2.born ho2
    clear ho1 ho2
    replace hB := hB.trans (Below.mono hb hB.size)
    have hz_w1 : W1.heap.size ≤ w1.heap.size := Below.size hb
    replace kb_p := Blk.below kb_p hb (by first | exact kb_p.lt | (have := kb_p.lt; omega))
    have kc_p := kb_p.cells
    have kf_p := kb_p.frozens
    have hl_p := kb_p.lt
    have hn_p := Nat.ne_of_lt kb_p.lt
    replace kb_r := Blk.below kb_r hb (by first | exact kb_r.lt | (have := kb_r.lt; omega))
    have kc_r := kb_r.cells
    have kf_r := kb_r.frozens
    have hl_r := kb_r.lt
    have hn_r := Nat.ne_of_lt kb_r.lt
    clear hb
    go_wp2_with fail
    first | refine name_world ?_ | refine name_wp ?_
    intro W2 hW
    replace hB : Below w.heap.size w W2 := by rw [hW]; exact tacT
    have hz_W2 : w1.heap.size ≤ W2.heap.size := by rw [hW]; first | (simp; done) | (simp; omega)
    replace kb_p : Blk W2 (w.heap.size) 29 #[.int .i64 room, .int .i64 start, .slice A l.length c, .int .i64 lv, .int .i64 ra, .int .i64 dr, .int .i64 lo, .slice R rs.length d] := by rw [hW]; exact blkT
    have hLW2_p := kb_p.lt
    replace kb_r : Blk W2 (w.heap.size + 2) 29 #[.int .i64 0, .int .i64 0, .slice none 0 0, .int .i64 0, .int .i64 0, .int .i64 0, .int .i64 0, .slice none 0 0] := by rw [hW]; exact blkT
    have hLW2_r := kb_r.lt
    replace kb_o : Blk W2 (w1.heap.size) 29 #[.int .i64 room, .int .i64 start, .slice A1 l.length c1, .int .i64 lv, .int .i64 ra, .int .i64 dr, .int .i64 lo, .slice R1 rs.length d1] := by rw [hW]; exact blkT
    have hLW2_o := kb_o.lt
    replace hr_e : Row2 W2 (W1.heap.size) (w1.heap.size) 66 3 A1 (l.length) c1 (t3s l) := by rw [hW]; exact rowT
    replace hr_s : Row2 W2 (W1.heap.size) (w1.heap.size) 51 3 R1 (rs.length) d1 (t3s rs) := by rw [hW]; exact rowT
    try clear kc_p kf_p
    try clear kc_r kf_r
    try clear kc_o kf_o
    clear hW
    refine (H2.out _ hB).mono ?_
    rintro e w2 ⟨rfl, hb⟩
    replace hB := hB.trans (Below.mono hb hB.size)
    have hz_w2 : W2.heap.size ≤ w2.heap.size := Below.size hb
    replace kb_p := Blk.below kb_p hb (by first | exact kb_p.lt | (have := kb_p.lt; omega))
    have kc_p := kb_p.cells
    have kf_p := kb_p.frozens
    have hl_p := kb_p.lt
    have hn_p := Nat.ne_of_lt kb_p.lt
    replace kb_r := Blk.below kb_r hb (by first | exact kb_r.lt | (have := kb_r.lt; omega))
    have kc_r := kb_r.cells
    have kf_r := kb_r.frozens
    have hl_r := kb_r.lt
    have hn_r := Nat.ne_of_lt kb_r.lt
    replace kb_o := Blk.below kb_o hb (by first | exact kb_o.lt | (have := kb_o.lt; omega))
    have kc_o := kb_o.cells
    have kf_o := kb_o.frozens
    have hl_o := kb_o.lt
    have hn_o := Nat.ne_of_lt kb_o.lt
    replace hr_e := Row2.below hr_e hb (by omega)
    replace hr_s := Row2.below hr_s hb (by omega)
    clear hb
    go_wp2_with fail
    refine bodyPost_ret (v := .tuple #[.agg #[.int .i64 room, .int .i64 start, .slice A1 l.length c1, .int .i64 lv, .int .i64 ra, .int .i64 dr, .int .i64 lo, .slice R1 rs.length d1], .bool false]) ?_ rfl ?_
    · simp [results, Try.results33, go_sem, kc_r, kc_o]
    · exact ⟨A1, c1, R1, d1, rfl, (Row2.mono (lo := W1.heap.size) (hi := w1.heap.size) (hi' := w1.heap.size) (by exact rowT) (by omega) (Nat.le_refl _)).1, (Row2.mono (lo := W1.heap.size) (hi := w1.heap.size) (hi' := w1.heap.size) (by exact rowT) (by omega) (Nat.le_refl _)).1, by exact tacT⟩
  · have hst : vSell v f t a b = (⟨v.book, (sellF v.rights f t a b).1⟩, (sellF v.rights f t a b).2) := by unfold vSell; rw [hv]; rfl
    rw [hst]
    rw [hv] at h2
    unfold SellRet at h3
    obtain ⟨⟨rs', ok⟩, hE⟩ : ∃ r, sellF v.rights f t a b = r := ⟨_, rfl⟩
    rw [hE] at h3 ⊢
    unfold VgRet
    unfold VgOwn at h1
    unfold Vg.val at h1 h2 ⊢
    obtain ⟨⟨room, start, l, lv, ra, dr, lo⟩, rs⟩ := v
    simp only at h h' hs hs' h1 h2 h3 ⊢
    have H1 := Lib.hid h1
    have H2 := Lib.hid h2
    have H3 := Lib.hid h3
    clear h1 h2 h3 hv hst hE
    go_enter Try.func33, Try.ntmps33
    go_wp2_with fail
    first | refine name_world ?_ | refine name_wp ?_
    intro W1 hW
    replace hB : Below w.heap.size w W1 := by rw [hW]; exact tacT
    have hz_W1 : w.heap.size ≤ W1.heap.size := by rw [hW]; first | (simp; done) | (simp; omega)
    replace kb_p : Blk W1 (w.heap.size) 29 #[.int .i64 room, .int .i64 start, .slice A l.length c, .int .i64 lv, .int .i64 ra, .int .i64 dr, .int .i64 lo, .slice R rs.length d] := by rw [hW]; exact blkT
    have hLW1_p := kb_p.lt
    replace kb_q : Blk W1 (w.heap.size + 1) 41 #[.int .i64 a, .int .i64 b] := by rw [hW]; exact blkT
    have hLW1_q := kb_q.lt
    replace kb_r : Blk W1 (w.heap.size + 2) 29 #[.int .i64 0, .int .i64 0, .slice none 0 0, .int .i64 0, .int .i64 0, .int .i64 0, .int .i64 0, .slice none 0 0] := by rw [hW]; exact blkT
    have hLW1_r := kb_r.lt
    try clear kc_p kf_p
    try clear kc_q kf_q
    try clear kc_r kf_r
    clear hW
    refine (H1.out _ hB).mono ?_
    rintro e w1 ⟨A1, c1, R1, d1, rfl, ⟨ho1, ho2⟩, hb⟩
    have hr_e := Row2.born ho1
    clear ho1 ho2
    replace hB := hB.trans (Below.mono hb hB.size)
    have hz_w1 : W1.heap.size ≤ w1.heap.size := Below.size hb
    replace kb_p := Blk.below kb_p hb (by first | exact kb_p.lt | (have := kb_p.lt; omega))
    have kc_p := kb_p.cells
    have kf_p := kb_p.frozens
    have hl_p := kb_p.lt
    have hn_p := Nat.ne_of_lt kb_p.lt
    replace kb_q := Blk.below kb_q hb (by first | exact kb_q.lt | (have := kb_q.lt; omega))
    have kc_q := kb_q.cells
    have kf_q := kb_q.frozens
    have hl_q := kb_q.lt
    have hn_q := Nat.ne_of_lt kb_q.lt
    replace kb_r := Blk.below kb_r hb (by first | exact kb_r.lt | (have := kb_r.lt; omega))
    have kc_r := kb_r.cells
    have kf_r := kb_r.frozens
    have hl_r := kb_r.lt
    have hn_r := Nat.ne_of_lt kb_r.lt
    clear hb
    go_wp2_with fail
    first | refine name_world ?_ | refine name_wp ?_
    intro W2 hW
    replace hB : Below w.heap.size w W2 := by rw [hW]; exact tacT
    have hz_W2 : w1.heap.size ≤ W2.heap.size := by rw [hW]; first | (simp; done) | (simp; omega)
    replace kb_p : Blk W2 (w.heap.size) 29 #[.int .i64 room, .int .i64 start, .slice A l.length c, .int .i64 lv, .int .i64 ra, .int .i64 dr, .int .i64 lo, .slice R rs.length d] := by rw [hW]; exact blkT
    have hLW2_p := kb_p.lt
    replace kb_q : Blk W2 (w.heap.size + 1) 41 #[.int .i64 a, .int .i64 b] := by rw [hW]; exact blkT
    have hLW2_q := kb_q.lt
    replace kb_r : Blk W2 (w.heap.size + 2) 29 #[.int .i64 0, .int .i64 0, .slice none 0 0, .int .i64 0, .int .i64 0, .int .i64 0, .int .i64 0, .slice none 0 0] := by rw [hW]; exact blkT
    have hLW2_r := kb_r.lt
    replace kb_o : Blk W2 (w1.heap.size) 29 #[.int .i64 room, .int .i64 start, .slice A1 l.length c1, .int .i64 lv, .int .i64 ra, .int .i64 dr, .int .i64 lo, .slice R1 rs.length d1] := by rw [hW]; exact blkT
    have hLW2_o := kb_o.lt
    replace hr_e : Row2 W2 (W1.heap.size) (w1.heap.size) 66 3 A1 (l.length) c1 (t3s l) := by rw [hW]; exact rowT
    try clear kc_p kf_p
    try clear kc_q kf_q
    try clear kc_r kf_r
    try clear kc_o kf_o
    clear hW
    refine (H2.out _ hB).mono ?_
    rintro e w2 ⟨rfl, hb⟩
    replace hB := hB.trans (Below.mono hb hB.size)
    have hz_w2 : W2.heap.size ≤ w2.heap.size := Below.size hb
    replace kb_p := Blk.below kb_p hb (by first | exact kb_p.lt | (have := kb_p.lt; omega))
    have kc_p := kb_p.cells
    have kf_p := kb_p.frozens
    have hl_p := kb_p.lt
    have hn_p := Nat.ne_of_lt kb_p.lt
    replace kb_q := Blk.below kb_q hb (by first | exact kb_q.lt | (have := kb_q.lt; omega))
    have kc_q := kb_q.cells
    have kf_q := kb_q.frozens
    have hl_q := kb_q.lt
    have hn_q := Nat.ne_of_lt kb_q.lt
    replace kb_r := Blk.below kb_r hb (by first | exact kb_r.lt | (have := kb_r.lt; omega))
    have kc_r := kb_r.cells
    have kf_r := kb_r.frozens
    have hl_r := kb_r.lt
    have hn_r := Nat.ne_of_lt kb_r.lt
    replace kb_o := Blk.below kb_o hb (by first | exact kb_o.lt | (have := kb_o.lt; omega))
    have kc_o := kb_o.cells
    have kf_o := kb_o.frozens
    have hl_o := kb_o.lt
    have hn_o := Nat.ne_of_lt kb_o.lt
    replace hr_e := Row2.below hr_e hb (by omega)
    clear hb
    go_wp2_with fail
    refine (H3.out _ hB).mono ?_
    rintro e w3 ⟨R3, d3, rfl, ho3, hb⟩
    have hr_s := Row2.born ho3
    clear ho3
    replace hB := hB.trans (Below.mono hb hB.size)
    have hz_w3 : w2.heap.size ≤ w3.heap.size := Below.size hb
    replace kb_p := Blk.below kb_p hb (by first | exact kb_p.lt | (have := kb_p.lt; omega))
    have kc_p := kb_p.cells
    have kf_p := kb_p.frozens
    have hl_p := kb_p.lt
    have hn_p := Nat.ne_of_lt kb_p.lt
    replace kb_q := Blk.below kb_q hb (by first | exact kb_q.lt | (have := kb_q.lt; omega))
    have kc_q := kb_q.cells
    have kf_q := kb_q.frozens
    have hl_q := kb_q.lt
    have hn_q := Nat.ne_of_lt kb_q.lt
    replace kb_r := Blk.below kb_r hb (by first | exact kb_r.lt | (have := kb_r.lt; omega))
    have kc_r := kb_r.cells
    have kf_r := kb_r.frozens
    have hl_r := kb_r.lt
    have hn_r := Nat.ne_of_lt kb_r.lt
    replace kb_o := Blk.below kb_o hb (by first | exact kb_o.lt | (have := kb_o.lt; omega))
    have kc_o := kb_o.cells
    have kf_o := kb_o.frozens
    have hl_o := kb_o.lt
    have hn_o := Nat.ne_of_lt kb_o.lt
    replace hr_e := Row2.below hr_e hb (by omega)
    clear hb
    go_wp2_with fail
    refine bodyPost_ret (v := .tuple #[.agg #[.int .i64 room, .int .i64 start, .slice A1 l.length c1, .int .i64 lv, .int .i64 ra, .int .i64 dr, .int .i64 lo, .slice R3 rs'.length d3], .bool ok]) ?_ rfl ?_
    · simp [results, Try.results33, go_sem, kc_r, kc_o, hl_r, hn_r, hl_o, hn_o]
    · exact ⟨A1, c1, R3, d3, rfl, (Row2.mono (lo := W1.heap.size) (hi := w1.heap.size) (hi' := w1.heap.size) (by exact rowT) (by omega) (Nat.le_refl _)).1, (Row2.mono (lo := w2.heap.size) (hi := w3.heap.size) (hi' := w3.heap.size) (by exact rowT) (by omega) (Nat.le_refl _)).1, by exact tacT⟩
theorem vSell_len (v : Vg) (f t a b : Int) : (vSell v f t a b).1.book.evs.length ≤ v.book.evs.length ∧ (vSell v f t a b).1.rights.length ≤ v.rights.length + 12 := by
  unfold vSell
  split
  · refine ⟨Nat.le_refl _, ?_⟩
    have := sellF_len v.rights f t a b
    simp only; omega
  · exact ⟨Nat.le_refl _, by simp⟩
theorem Sell_any (A : Option Addr) (c : Nat) (R : Option Addr) (d : Nat) (v : Vg) (f t a b : Int) (w : World) (h : RdT w w.heap.size A c v.book.evs) (h' : RdT w w.heap.size R d v.rights) (hs : v.book.evs.length + v.rights.length ≤ 1048576) :
    Calls Try.prog 25 #[v.val A c R d, .int .i64 f, .int .i64 t, .agg #[.int .i64 a, .int .i64 b]] w (VgRet (vSell v f t a b) w) := vSell_any A c R d v f t a b w h h' (by omega) (by omega)
theorem SellS_any (A : Option Addr) (c : Nat) (R : Option Addr) (d : Nat) (v : Vg) (f t a b : Int) (w : World) (h : RdT w w.heap.size A c v.book.evs) (h' : RdT w w.heap.size R d v.rights) (hs : v.book.evs.length + v.rights.length ≤ 1048576) :
    Calls Try.prog 33 #[v.val A c R d, .int .i64 f, .int .i64 t, .agg #[.int .i64 a, .int .i64 b]] w (VgRet (vSell v f t a b) w) := vSellS_any A c R d v f t a b w h h' (by omega) (by omega)
end Go.Proofs.Ytdmgdkeichlccaa
