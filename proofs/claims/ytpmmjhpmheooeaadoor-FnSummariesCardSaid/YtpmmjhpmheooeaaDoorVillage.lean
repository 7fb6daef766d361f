/- Villages: VillageOk, the law side's helpers, copies. -/
import Derived.Test.YtpmmjhpmheooeaaDoorRightsOk
import Derived.Test.YtpmmjhpmheooeaaDoorKc
import Derived.Test.YtpmmjhpmheooeaaDoorKb
namespace Go.Proofs.YtpmmjhpmheooeaaDoor
set_option linter.unusedSimpArgs false
set_option linter.unusedVariables false
open Go.RowKit
set_option maxRecDepth 20000
structure Vg where
  book : Bk
  rights : List T3
def Vg.val (v : Vg) (A : Option Addr) (c : Nat) (R : Option Addr) (d : Nat) : Value := .agg #[.int .i64 v.book.room, .int .i64 v.book.start, .slice A v.book.evs.length c, .int .i64 v.book.level, .int .i64 v.book.rained, .int .i64 v.book.drunk, .int .i64 v.book.lost, .slice R v.rights.length d]
def villageOk (v : Vg) : Bool := bookOk v.book && rightsOk v.rights
set_option maxHeartbeats 1600000 in
theorem VillageOk_any (A : Option Addr) (c : Nat) (R : Option Addr) (d : Nat) (v : Vg) (w : World) (h : RdT w w.heap.size A c v.book.evs) (h' : RdT w w.heap.size R d v.rights) (hs : v.book.evs.length ≤ 1048576) :
    Calls Tryd.prog 48 #[v.val A c R d] w fun e w' => e = .returned (.bool (villageOk v)) ∧ Below w.heap.size w w' := by
  have hB := Below.refl w.heap.size w
  have h1 := fun (W : World) (hb : Below w.heap.size w W) => BookOk_any A c v.book W (h.below hb)
  have h2 := fun (W : World) (hb : Below w.heap.size w W) => RightsOk_any R d v.rights W (h'.below hb)
  have hv : villageOk v = (bookOk v.book && rightsOk v.rights) := rfl
  rw [hv]
  clear hv
  unfold Vg.val
  unfold Bk.val at h1
  obtain ⟨⟨room, start, l, lv, ra, dr, lo⟩, rs⟩ := v
  simp only at h h' hs h1 h2 ⊢
  have H1 := Lib.hid h1
  have H2 := Lib.hid h2
  clear h1 h2
  cases c1 : bookOk ⟨room, start, l, lv, ra, dr, lo⟩
  all_goals
    go_enter Tryd.func48, Tryd.ntmps48
    go_wp2_with fail
    first | refine name_world ?_ | refine name_wp ?_
    intro W1 hW
    replace hB : Below w.heap.size w W1 := by rw [hW]; exact tacT
    have hz_W1 : w.heap.size ≤ W1.heap.size := by rw [hW]; exact sT
    replace kb_p : Blk W1 (w.heap.size) 35 #[.int .i64 room, .int .i64 start, .slice A l.length c, .int .i64 lv, .int .i64 ra, .int .i64 dr, .int .i64 lo, .slice R rs.length d] := by rw [hW]; exact blkT
    have hLW1_p := kb_p.lt
    try clear kc_p kf_p
    clear hW
    refine (H1.out _ hB).mono ?_
    rw [c1]
    rintro e w1 ⟨rfl, hb⟩
    replace hB := hB.trans (Below.mono hb hB.size)
    have hz_w1 : W1.heap.size ≤ w1.heap.size := Below.size hb
    replace kb_p := kb_p.mv hb; obtain ⟨kb_p, kc_p, kf_p, hl_p, hn_p⟩ := kb_p
    clear hb
    go_wp2_with fail
  · go_ret
    exact ⟨rfl, hB⟩
  · refine (H2.out _ hB).mono ?_
    rintro e w2 ⟨rfl, hb⟩
    replace hB := hB.trans (Below.mono hb hB.size)
    have hz_w2 : w1.heap.size ≤ w2.heap.size := Below.size hb
    clear hb
    go_wp2_with fail
    go_ret
    exact ⟨rfl, hB⟩
set_option maxHeartbeats 1600000 in
theorem VillageOkS_any (A : Option Addr) (c : Nat) (R : Option Addr) (d : Nat) (v : Vg) (w : World) (h : RdT w w.heap.size A c v.book.evs) (h' : RdT w w.heap.size R d v.rights) (hs : v.book.evs.length ≤ 1048576) :
    Calls Tryd.prog 89 #[v.val A c R d] w fun e w' => e = .returned (.bool (villageOk v)) ∧ Below w.heap.size w w' := by
  have hB := Below.refl w.heap.size w
  have h1 := fun (W : World) (hb : Below w.heap.size w W) => BookOkS_any A c v.book W (h.below hb) hs
  have h2 := fun (W : World) (hb : Below w.heap.size w W) => RightsOkS_any R d v.rights W (h'.below hb)
  have hv : villageOk v = (bookOk v.book && rightsOk v.rights) := rfl
  rw [hv]
  clear hv
  unfold Vg.val
  unfold Bk.val at h1
  obtain ⟨⟨room, start, l, lv, ra, dr, lo⟩, rs⟩ := v
  simp only at h h' hs h1 h2 ⊢
  have H1 := Lib.hid h1
  have H2 := Lib.hid h2
  clear h1 h2
  cases c1 : bookOk ⟨room, start, l, lv, ra, dr, lo⟩
  all_goals
    go_enter Tryd.func89, Tryd.ntmps89
    go_wp2_with fail
    first | refine name_world ?_ | refine name_wp ?_
    intro W1 hW
    replace hB : Below w.heap.size w W1 := by rw [hW]; exact tacT
    have hz_W1 : w.heap.size ≤ W1.heap.size := by rw [hW]; exact sT
    replace kb_p : Blk W1 (w.heap.size) 35 #[.int .i64 room, .int .i64 start, .slice A l.length c, .int .i64 lv, .int .i64 ra, .int .i64 dr, .int .i64 lo, .slice R rs.length d] := by rw [hW]; exact blkT
    have hLW1_p := kb_p.lt
    try clear kc_p kf_p
    clear hW
    refine (H1.out _ hB).mono ?_
    rw [c1]
    rintro e w1 ⟨rfl, hb⟩
    replace hB := hB.trans (Below.mono hb hB.size)
    have hz_w1 : W1.heap.size ≤ w1.heap.size := Below.size hb
    replace kb_p := kb_p.mv hb; obtain ⟨kb_p, kc_p, kf_p, hl_p, hn_p⟩ := kb_p
    clear hb
    go_wp2_with fail
  · go_ret
    exact ⟨rfl, hB⟩
  · refine (H2.out _ hB).mono ?_
    rintro e w2 ⟨rfl, hb⟩
    replace hB := hB.trans (Below.mono hb hB.size)
    have hz_w2 : w1.heap.size ≤ w2.heap.size := Below.size hb
    clear hb
    go_wp2_with fail
    go_ret
    exact ⟨rfl, hB⟩
end Go.Proofs.YtpmmjhpmheooeaaDoor
