/- Texts of the proof, joined: Drink, Run3, Store, To3S. -/
import Derived.Test.YtpmmjhpmheooeaaGreatDoorP11
import Derived.Test.YtpmmjhpmheooeaaGreatDoorP17
import Derived.Test.YtpmmjhpmheooeaaGreatDoorP0
import Derived.Lib.AppendZerosOnto
import Derived.Lib.Overlaps
import Derived.Laws.CopyRow
import Derived.Laws.IdiomCopy
import Derived.Test.YtpmmjhpmheooeaaGreatDoorP1
import Derived.Deep.RegionHeld3
import Derived.Test.YtpmmjhpmheooeaaGreatDoorP3
namespace Go.Proofs.YtpmmjhpmheooeaaGreatDoor
set_option linter.unusedSimpArgs false
set_option linter.unusedVariables false
section
open Go.RowKit
set_option maxRecDepth 20000
def vDrink (v : Vg) (o n : Int) : Vg × Bool := if mayDrink v o < n then (v, false) else vEnter v ⟨2, n, o⟩
set_option maxHeartbeats 1600000 in
theorem Drink_any (A : Option Addr) (c : Nat) (R : Option Addr) (d : Nat) (v : Vg) (o n : Int) (w : World) (h : RdT w w.heap.size A c v.book.evs) (h' : RdT w w.heap.size R d v.rights) (hs : v.book.evs.length + v.rights.length ≤ 1048576) :
  Calls Tryz.prog 65 #[v.val A c R d, .int .i64 o, .int .i64 n] w (VgRet (vDrink v o n) w) := by
 have hB := Below.refl w.heap.size w
 have h1 := fun (W : World) (hb : Below w.heap.size w W) => MayDrink_any A c R d v o W (h.below hb) (h'.below hb) (by omega)
 obtain ⟨M, hM⟩ : ∃ M, M = mayDrink v o := ⟨_, rfl⟩
 rw [← hM] at h1
 by_cases hlt : M < n
 ·have h2 := fun (W : World) (hb : Below w.heap.size w W) => copyVillage_any A c R d v W (h.below hb) (h'.below hb) (by omega) (by omega)
  have hst : vDrink v o n = (v, false) := by unfold vDrink; rw [← hM, if_pos hlt]
  rw [hst]
  unfold VgRet
  unfold VgOwn at h2
  unfold Vg.val at h1 h2 ⊢
  obtain ⟨⟨room, start, l, lv, ra, dr, lo⟩, rs⟩ := v
  simp only at h h' hs h1 h2 ⊢
  have H1 := Lib.hid h1
  have H2 := Lib.hid h2
  clear h1 h2 hst hM
  go_enter Tryz.func65, Tryz.ntmps65
  go_wp2_with fail
  first | refine name_world ?_ | refine name_wp ?_
  intro W1 hW
  replace hB : Below w.heap.size w W1 := by rw [hW]; exact tacT
  have hz_W1 : w.heap.size ≤ W1.heap.size := by rw [hW]; exact sT
  replace kb_p : Blk W1 (w.heap.size) 35 #[.int .i64 room, .int .i64 start, .slice A l.length c, .int .i64 lv, .int .i64 ra, .int .i64 dr, .int .i64 lo, .slice R rs.length d] := by rw [hW]; exact blkT
  have hLW1_p := kb_p.lt
  replace kb_r : Blk W1 (w.heap.size + 1) 35 #[.int .i64 0, .int .i64 0, .slice none 0 0, .int .i64 0, .int .i64 0, .int .i64 0, .int .i64 0, .slice none 0 0] := by rw [hW]; exact blkT
  have hLW1_r := kb_r.lt
  try clear kc_p kf_p
  try clear kc_r kf_r
  clear hW
  refine (H1.out _ hB).mono ?_
  rintro e w1 ⟨rfl, hb⟩
  replace hB := hB.trans (Below.mono hb hB.size)
  have hz_w1 : W1.heap.size ≤ w1.heap.size := Below.size hb
  replace kb_p := kb_p.mv hb; obtain ⟨kb_p, kc_p, kf_p, hl_p, hn_p⟩ := kb_p
  replace kb_r := kb_r.mv hb; obtain ⟨kb_r, kc_r, kf_r, hl_r, hn_r⟩ := kb_r
  clear hb
  go_wp2_with fail
  refine (H2.out _ hB).mono ?_
  rintro e w2 ⟨A1, c1, R1, d1, rfl, ⟨ho1, ho2⟩, hb⟩
  have hr_e := Row2.born ho1
  have hr_s := Row2.born ho2
  clear ho1 ho2
  replace hB := hB.trans (Below.mono hb hB.size)
  have hz_w2 : w1.heap.size ≤ w2.heap.size := Below.size hb
  replace kb_r := kb_r.mv hb; obtain ⟨kb_r, kc_r, kf_r, hl_r, hn_r⟩ := kb_r
  clear hb
  go_wp2_with fail
  refine bodyPost_ret (v := .tuple #[.agg #[.int .i64 room, .int .i64 start, .slice A1 l.length c1, .int .i64 lv, .int .i64 ra, .int .i64 dr, .int .i64 lo, .slice R1 rs.length d1], .bool false]) ?_ rfl ?_
  ·simp [results, Tryz.results65, go_sem, kc_r, hl_r, hn_r]
  ·exact ⟨A1, c1, R1, d1, rfl, (Row2.mono (lo := w1.heap.size) (hi := w2.heap.size) (hi' := w2.heap.size) (by exact rowT) (by omega) (Nat.le_refl _)).1, (Row2.mono (lo := w1.heap.size) (hi := w2.heap.size) (hi' := w2.heap.size) (by exact rowT) (by omega) (Nat.le_refl _)).1, by exact tacT⟩
 ·have h2 := fun (W : World) (hb : Below w.heap.size w W) => vEnter_any A c R d v 2 n o W (h.below hb) (h'.below hb) (by omega) (by omega)
  have hst : vDrink v o n = vEnter v ⟨2, n, o⟩ := by unfold vDrink; rw [← hM, if_neg hlt]
  rw [hst]
  obtain ⟨⟨⟨⟨room', start', l', lv', ra', dr', lo'⟩, rs'⟩, ok⟩, hE⟩ : ∃ r, vEnter v ⟨2, n, o⟩ = r := ⟨_, rfl⟩
  rw [hE] at h2 ⊢
  unfold VgRet at h2 ⊢
  unfold Vg.val at h1 h2 ⊢
  obtain ⟨⟨room, start, l, lv, ra, dr, lo⟩, rs⟩ := v
  simp only at h h' hs h1 h2 ⊢
  have H1 := Lib.hid h1
  have H2 := Lib.hid h2
  clear h1 h2 hst hM hE
  go_enter Tryz.func65, Tryz.ntmps65
  go_wp2_with fail
  first | refine name_world ?_ | refine name_wp ?_
  intro W1 hW
  replace hB : Below w.heap.size w W1 := by rw [hW]; exact tacT
  have hz_W1 : w.heap.size ≤ W1.heap.size := by rw [hW]; exact sT
  replace kb_p : Blk W1 (w.heap.size) 35 #[.int .i64 room, .int .i64 start, .slice A l.length c, .int .i64 lv, .int .i64 ra, .int .i64 dr, .int .i64 lo, .slice R rs.length d] := by rw [hW]; exact blkT
  have hLW1_p := kb_p.lt
  replace kb_r : Blk W1 (w.heap.size + 1) 35 #[.int .i64 0, .int .i64 0, .slice none 0 0, .int .i64 0, .int .i64 0, .int .i64 0, .int .i64 0, .slice none 0 0] := by rw [hW]; exact blkT
  have hLW1_r := kb_r.lt
  try clear kc_p kf_p
  try clear kc_r kf_r
  clear hW
  refine (H1.out _ hB).mono ?_
  rintro e w1 ⟨rfl, hb⟩
  replace hB := hB.trans (Below.mono hb hB.size)
  have hz_w1 : W1.heap.size ≤ w1.heap.size := Below.size hb
  replace kb_p := kb_p.mv hb; obtain ⟨kb_p, kc_p, kf_p, hl_p, hn_p⟩ := kb_p
  replace kb_r := kb_r.mv hb; obtain ⟨kb_r, kc_r, kf_r, hl_r, hn_r⟩ := kb_r
  clear hb
  go_wp2_with fail
  refine (H2.out _ hB).mono ?_
  rintro e w2 ⟨A1, c1, R1, d1, rfl, ho1, ho2, hb⟩
  have hr_e := Row2.born ho1
  have hr_s := Row2.born ho2
  clear ho1 ho2
  replace hB := hB.trans (Below.mono hb hB.size)
  have hz_w2 : w1.heap.size ≤ w2.heap.size := Below.size hb
  replace kb_r := kb_r.mv hb; obtain ⟨kb_r, kc_r, kf_r, hl_r, hn_r⟩ := kb_r
  clear hb
  go_wp2_with fail
  refine bodyPost_ret (v := .tuple #[.agg #[.int .i64 room', .int .i64 start', .slice A1 l'.length c1, .int .i64 lv', .int .i64 ra', .int .i64 dr', .int .i64 lo', .slice R1 rs'.length d1], .bool ok]) ?_ rfl ?_
  ·simp [results, Tryz.results65, go_sem, kc_r, hl_r, hn_r]
  ·exact ⟨A1, c1, R1, d1, rfl, (Row2.mono (lo := w1.heap.size) (hi := w2.heap.size) (hi' := w2.heap.size) (by exact rowT) (by omega) (Nat.le_refl _)).1, (Row2.mono (lo := w1.heap.size) (hi := w2.heap.size) (hi' := w2.heap.size) (by exact rowT) (by omega) (Nat.le_refl _)).1, by exact tacT⟩
set_option maxHeartbeats 1600000 in
theorem DrinkS_any (A : Option Addr) (c : Nat) (R : Option Addr) (d : Nat) (v : Vg) (o n : Int) (w : World) (h : RdT w w.heap.size A c v.book.evs) (h' : RdT w w.heap.size R d v.rights) (hs : v.book.evs.length + v.rights.length ≤ 1048576) :
  Calls Tryz.prog 81 #[v.val A c R d, .int .i64 o, .int .i64 n] w (VgRet (vDrink v o n) w) := by
 have hB := Below.refl w.heap.size w
 have h1 := fun (W : World) (hb : Below w.heap.size w W) => MayDrinkS_any A c R d v o W (h.below hb) (h'.below hb) (by omega)
 obtain ⟨M, hM⟩ : ∃ M, M = mayDrink v o := ⟨_, rfl⟩
 rw [← hM] at h1
 by_cases hlt : M < n
 ·have h2 := fun (W : World) (hb : Below w.heap.size w W) => l38Copy_any A c R d v W (h.below hb) (h'.below hb) (by omega) (by omega)
  have hst : vDrink v o n = (v, false) := by unfold vDrink; rw [← hM, if_pos hlt]
  rw [hst]
  unfold VgRet
  unfold VgOwn at h2
  unfold Vg.val at h1 h2 ⊢
  obtain ⟨⟨room, start, l, lv, ra, dr, lo⟩, rs⟩ := v
  simp only at h h' hs h1 h2 ⊢
  have H1 := Lib.hid h1
  have H2 := Lib.hid h2
  clear h1 h2 hst hM
  go_enter Tryz.func81, Tryz.ntmps81
  go_wp2_with fail
  first | refine name_world ?_ | refine name_wp ?_
  intro W1 hW
  replace hB : Below w.heap.size w W1 := by rw [hW]; exact tacT
  have hz_W1 : w.heap.size ≤ W1.heap.size := by rw [hW]; exact sT
  replace kb_p : Blk W1 (w.heap.size) 35 #[.int .i64 room, .int .i64 start, .slice A l.length c, .int .i64 lv, .int .i64 ra, .int .i64 dr, .int .i64 lo, .slice R rs.length d] := by rw [hW]; exact blkT
  have hLW1_p := kb_p.lt
  replace kb_r : Blk W1 (w.heap.size + 1) 35 #[.int .i64 0, .int .i64 0, .slice none 0 0, .int .i64 0, .int .i64 0, .int .i64 0, .int .i64 0, .slice none 0 0] := by rw [hW]; exact blkT
  have hLW1_r := kb_r.lt
  try clear kc_p kf_p
  try clear kc_r kf_r
  clear hW
  refine (H1.out _ hB).mono ?_
  rintro e w1 ⟨rfl, hb⟩
  replace hB := hB.trans (Below.mono hb hB.size)
  have hz_w1 : W1.heap.size ≤ w1.heap.size := Below.size hb
  replace kb_p := kb_p.mv hb; obtain ⟨kb_p, kc_p, kf_p, hl_p, hn_p⟩ := kb_p
  replace kb_r := kb_r.mv hb; obtain ⟨kb_r, kc_r, kf_r, hl_r, hn_r⟩ := kb_r
  clear hb
  go_wp2_with fail
  refine (H2.out _ hB).mono ?_
  rintro e w2 ⟨A1, c1, R1, d1, rfl, ⟨ho1, ho2⟩, hb⟩
  have hr_e := Row2.born ho1
  have hr_s := Row2.born ho2
  clear ho1 ho2
  replace hB := hB.trans (Below.mono hb hB.size)
  have hz_w2 : w1.heap.size ≤ w2.heap.size := Below.size hb
  replace kb_r := kb_r.mv hb; obtain ⟨kb_r, kc_r, kf_r, hl_r, hn_r⟩ := kb_r
  clear hb
  go_wp2_with fail
  refine bodyPost_ret (v := .tuple #[.agg #[.int .i64 room, .int .i64 start, .slice A1 l.length c1, .int .i64 lv, .int .i64 ra, .int .i64 dr, .int .i64 lo, .slice R1 rs.length d1], .bool false]) ?_ rfl ?_
  ·simp [results, Tryz.results81, go_sem, kc_r, hl_r, hn_r]
  ·exact ⟨A1, c1, R1, d1, rfl, (Row2.mono (lo := w1.heap.size) (hi := w2.heap.size) (hi' := w2.heap.size) (by exact rowT) (by omega) (Nat.le_refl _)).1, (Row2.mono (lo := w1.heap.size) (hi := w2.heap.size) (hi' := w2.heap.size) (by exact rowT) (by omega) (Nat.le_refl _)).1, by exact tacT⟩
 ·have h2 := fun (W : World) (hb : Below w.heap.size w W) => vEnterS_any A c R d v 2 n o W (h.below hb) (h'.below hb) (by omega) (by omega)
  have hst : vDrink v o n = vEnter v ⟨2, n, o⟩ := by unfold vDrink; rw [← hM, if_neg hlt]
  rw [hst]
  obtain ⟨⟨⟨⟨room', start', l', lv', ra', dr', lo'⟩, rs'⟩, ok⟩, hE⟩ : ∃ r, vEnter v ⟨2, n, o⟩ = r := ⟨_, rfl⟩
  rw [hE] at h2 ⊢
  unfold VgRet at h2 ⊢
  unfold Vg.val at h1 h2 ⊢
  obtain ⟨⟨room, start, l, lv, ra, dr, lo⟩, rs⟩ := v
  simp only at h h' hs h1 h2 ⊢
  have H1 := Lib.hid h1
  have H2 := Lib.hid h2
  clear h1 h2 hst hM hE
  go_enter Tryz.func81, Tryz.ntmps81
  go_wp2_with fail
  first | refine name_world ?_ | refine name_wp ?_
  intro W1 hW
  replace hB : Below w.heap.size w W1 := by rw [hW]; exact tacT
  have hz_W1 : w.heap.size ≤ W1.heap.size := by rw [hW]; exact sT
  replace kb_p : Blk W1 (w.heap.size) 35 #[.int .i64 room, .int .i64 start, .slice A l.length c, .int .i64 lv, .int .i64 ra, .int .i64 dr, .int .i64 lo, .slice R rs.length d] := by rw [hW]; exact blkT
  have hLW1_p := kb_p.lt
  replace kb_r : Blk W1 (w.heap.size + 1) 35 #[.int .i64 0, .int .i64 0, .slice none 0 0, .int .i64 0, .int .i64 0, .int .i64 0, .int .i64 0, .slice none 0 0] := by rw [hW]; exact blkT
  have hLW1_r := kb_r.lt
  try clear kc_p kf_p
  try clear kc_r kf_r
  clear hW
  refine (H1.out _ hB).mono ?_
  rintro e w1 ⟨rfl, hb⟩
  replace hB := hB.trans (Below.mono hb hB.size)
  have hz_w1 : W1.heap.size ≤ w1.heap.size := Below.size hb
  replace kb_p := kb_p.mv hb; obtain ⟨kb_p, kc_p, kf_p, hl_p, hn_p⟩ := kb_p
  replace kb_r := kb_r.mv hb; obtain ⟨kb_r, kc_r, kf_r, hl_r, hn_r⟩ := kb_r
  clear hb
  go_wp2_with fail
  refine (H2.out _ hB).mono ?_
  rintro e w2 ⟨A1, c1, R1, d1, rfl, ho1, ho2, hb⟩
  have hr_e := Row2.born ho1
  have hr_s := Row2.born ho2
  clear ho1 ho2
  replace hB := hB.trans (Below.mono hb hB.size)
  have hz_w2 : w1.heap.size ≤ w2.heap.size := Below.size hb
  replace kb_r := kb_r.mv hb; obtain ⟨kb_r, kc_r, kf_r, hl_r, hn_r⟩ := kb_r
  clear hb
  go_wp2_with fail
  refine bodyPost_ret (v := .tuple #[.agg #[.int .i64 room', .int .i64 start', .slice A1 l'.length c1, .int .i64 lv', .int .i64 ra', .int .i64 dr', .int .i64 lo', .slice R1 rs'.length d1], .bool ok]) ?_ rfl ?_
  ·simp [results, Tryz.results81, go_sem, kc_r, hl_r, hn_r]
  ·exact ⟨A1, c1, R1, d1, rfl, (Row2.mono (lo := w1.heap.size) (hi := w2.heap.size) (hi' := w2.heap.size) (by exact rowT) (by omega) (Nat.le_refl _)).1, (Row2.mono (lo := w1.heap.size) (hi := w2.heap.size) (hi' := w2.heap.size) (by exact rowT) (by omega) (Nat.le_refl _)).1, by exact tacT⟩
theorem vDrink_len (v : Vg) (o n : Int) : (vDrink v o n).1.book.evs.length ≤ v.book.evs.length + 1 ∧ (vDrink v o n).1.rights.length ≤ v.rights.length := by
 unfold vDrink
 split
 ·exact ⟨Nat.le_succ _, Nat.le_refl _⟩
 ·exact vEnter_len v ⟨2, n, o⟩
end
section
open Go.RowKit
section
variable {P : Program}
/-- A stretch of an array written over. -/
def patch (cur : Array Value) (o : Nat) (vs : List Value) : Array Value := (cur.toList.take o ++ vs ++ cur.toList.drop (o + vs.length)).toArray
theorem patch_size {cur : Array Value} {o : Nat} {vs : List Value} (h : o + vs.length ≤ cur.size) : (patch cur o vs).size = cur.size := by
 unfold patch
 simp only [List.size_toArray, List.length_append, List.length_take, List.length_drop, Array.length_toList]
 omega
theorem patch_get {cur : Array Value} {o : Nat} {vs : List Value} (h : o + vs.length ≤ cur.size) (i : Nat) : (patch cur o vs)[i]? = if o ≤ i ∧ i < o + vs.length then vs[i - o]? else cur[i]? := by
 unfold patch
 rw [List.getElem?_toArray, List.append_assoc, List.getElem?_append, List.getElem?_append, List.getElem?_take, List.getElem?_drop, List.length_take, Array.length_toList]
 by_cases h1 : i < o
 ·rw [if_pos (by omega), if_pos h1, if_neg (by omega)]; simp
 ·rw [if_neg (by omega)]
  have e : i - min o cur.size = i - o := by omega
  rw [e]
  by_cases h2 : i < o + vs.length
  ·rw [if_pos (by omega), if_pos (by omega)]
  ·rw [if_neg (by omega), if_neg (by omega)]
   have e2 : o + vs.length + (i - o - vs.length) = i := by omega
   rw [e2]; simp
theorem run_copyR (w : World) (dT sT ty elem : TypeId) (sz g o dLen dCap : Nat) (a : Addr) (sLen sCap : Nat) (cur : Array Value) (t : TypeId) (cs : List Value)
  (hu : P.underlying dT = some (.slice elem)) (hs : (P.info? elem).map (·.size) = some sz)
  (hg : w.heap[g]? = some (.cells cur t (0, 0))) (hn : cs.length = Nat.min sLen dLen * sz)
  (hsrc : ∀ j v, cs[j]? = some v → w.cell? (a.add j) = some v) (hfit : o + cs.length ≤ cur.size) (h1 : ∀ v ∈ cs, v.oneCell' = true) :
  (Builtin.copy_ #[dT, sT] ty #[.slice (some ⟨g, o, none⟩) dLen dCap, .slice (some a) sLen sCap]).run P w =
   .ok (goInt (Nat.min sLen dLen)) (w.setRow g (patch cur o cs)) := by
 have hl := run_loadCells_list (P := P) w a cs hsrc
 have hst := run_storeCells_at P g o t cs 0 cur w hg (by simpa using hfit) h1
 rw [hn] at hl
 cases hq : P.info? elem with
 |none => simp [hq] at hs
 |some i =>
  have hi : i.size = sz := by simpa [hq] using hs
  unfold patch
  simp [Builtin.copy_, run_underlying hu, Builtin.lenOf, Builtin.firstCells, sizeOf, typeInfo, hq, hi, hl, hst]
theorem run_clearR (w : World) (t e ty : TypeId) (z : Value) (ht : P.underlying t = some (.slice e)) (hv : ∀ w, (zeroValue e).run P w = .ok z w) (g o n c : Nat) (cur : Array Value) (tt : TypeId) (zs : List Value) (hz : (Builtin.zeroCells z.cells n).toList = zs) (hn : 0 < n)
  (hg : w.heap[g]? = some (.cells cur tt (0, 0))) (hfit : o + zs.length ≤ cur.size) (h1 : ∀ v ∈ zs, v.oneCell' = true) :
  (Builtin.clear_ #[t] ty #[.slice (some ⟨g, o, none⟩) n c]).run P w = .ok (.tuple #[]) (w.setRow g (patch cur o zs)) := by
 have hst := run_storeCells_at P g o tt zs 0 cur w hg (by simpa using hfit) h1
 obtain ⟨m, rfl⟩ : ∃ m, n = m + 1 := ⟨n - 1, by omega⟩
 unfold patch
 simp [Builtin.clear_, run_underlying ht, hv, hz, hst]
theorem run_appR (w : World) (t tx ty e : TypeId) (i : TypeInfo) (ht : P.underlying t = some (.slice e)) (htx : P.underlying tx = some (.slice e)) (hi : P.info? e = some i) (g off sLen sCap : Nat) (cur : Array Value) (tt : TypeId) (ad : Addr) (m c : Nat) (news : List Value)
  (hg : w.heap[g]? = some (.cells cur tt (0, 0))) (hn : news.length = m * i.size) (hsrc : ∀ j u, news[j]? = some u → w.cell? (ad.add j) = some u) (h1 : ∀ u ∈ news, u.oneCell' = true)
  (hroom : sLen + m ≤ sCap) (hfit : off + sLen * i.size + news.length ≤ cur.size) :
  (Builtin.append_ #[t, tx] ty #[.slice (some ⟨g, off, none⟩) sLen sCap, .slice (some ad) m c]).run P w = .ok (.slice (some ⟨g, off, none⟩) (sLen + m) sCap) (w.setRow g (patch cur (off + sLen * i.size) news)) := by
 have hl := run_loadCells_list (P := P) w ad news hsrc
 have hst := run_storeCells_at P g (off + sLen * i.size) tt news 0 cur w hg (by simpa using hfit) h1
 rw [hn] at hl
 simp only [Nat.add_zero] at hst
 unfold patch
 simp [Builtin.append_, run_underlying ht, run_underlying htx, sizeOf, typeInfo, hi, hroom, Builtin.lenOf, Builtin.firstCells, hl, Addr.add_lit, hst]
/-! ### the operations, for the walk and for a drawn region -/
theorem wp_copy_is (w : World) {o : Oper} {a : Act} {K : Act → World → Prop} {Q : Exit → Act → World → Prop} (d s : Operand) (ts : Array TypeId)
  (ho : o.op = .call { callee := .builtin .copy, args := #[d, s], argTypes := ts }) (v u : Value) (hd : a.eval d = v) (hs : a.eval s = u) {v' : Value} {w' : World}
  (hr : (Builtin.copy_ ts o.type #[v, u]).run P w = .ok v' w') (h : K (a.put o.dst v') w') : o.wp P a w K Q := by
 unfold Oper.wp execOp
 simp only [ho, resolve, invoke, builtin, Sem.run_bind, Sem.run_pure, Result.andThen_ok, List.map_toArray, List.map_cons, List.map_nil, hd, hs, hr]
 exact h
theorem wpList_copy_is (w : World) {ops : Array Oper} {rest : List Oper} {o : Oper} {a : Act} {Q : Exit → Act → World → Prop} (hgd : o.guard = none) (d s : Operand) (ts : Array TypeId)
  (ho : o.op = .call { callee := .builtin .copy, args := #[d, s], argTypes := ts }) (v u : Value) (hd : a.eval d = v) (hs : a.eval s = u) {v' : Value} {w' : World}
  (hr : (Builtin.copy_ ts o.type #[v, u]).run P w = .ok v' w') (h : wpList P ops Q rest (a.put o.dst v') w') : wpList P ops Q (o :: rest) a w :=
 wpList_plain hgd fun _ hK => wp_copy_is w d s ts ho v u hd hs hr (hK _ _ h)
theorem step_copy_is {w : World} {ops : Array Oper} {o : Oper} {a : Act} {K : Act → World → Prop} {Q : Exit → Act → World → Prop} {E : Prop} (hgd : o.guard = none) (d s : Operand) (ts : Array TypeId)
  (ho : o.op = .call { callee := .builtin .copy, args := #[d, s], argTypes := ts }) (v u : Value) (hd : a.eval d = v) (hs : a.eval s = u) {v' : Value} {w' : World}
  (hr : (Builtin.copy_ ts o.type #[v, u]).run P w = .ok v' w') (h : K (a.put o.dst v') w') : if Region.wanted o (yielded ops a.tmps) = true then Oper.wp P o a w K Q else E := by
 have hw : Region.wanted o (yielded ops a.tmps) = true := by simp [Region.wanted, hgd]
 rw [if_pos hw]
 exact wp_copy_is w d s ts ho v u hd hs hr h
theorem wp_app_is (w : World) {o : Oper} {a : Act} {K : Act → World → Prop} {Q : Exit → Act → World → Prop} (d s : Operand) (ts : Array TypeId)
  (ho : o.op = .call { callee := .builtin .append, args := #[d, s], argTypes := ts }) (v u : Value) (hd : a.eval d = v) (hs : a.eval s = u) {v' : Value} {w' : World}
  (hr : (Builtin.append_ ts o.type #[v, u]).run P w = .ok v' w') (h : K (a.put o.dst v') w') : o.wp P a w K Q := by
 unfold Oper.wp execOp
 simp only [ho, resolve, invoke, builtin, Sem.run_bind, Sem.run_pure, Result.andThen_ok, List.map_toArray, List.map_cons, List.map_nil, hd, hs, hr]
 exact h
theorem wpList_app_is (w : World) {ops : Array Oper} {rest : List Oper} {o : Oper} {a : Act} {Q : Exit → Act → World → Prop} (hgd : o.guard = none) (d s : Operand) (ts : Array TypeId)
  (ho : o.op = .call { callee := .builtin .append, args := #[d, s], argTypes := ts }) (v u : Value) (hd : a.eval d = v) (hs : a.eval s = u) {v' : Value} {w' : World}
  (hr : (Builtin.append_ ts o.type #[v, u]).run P w = .ok v' w') (h : wpList P ops Q rest (a.put o.dst v') w') : wpList P ops Q (o :: rest) a w :=
 wpList_plain hgd fun _ hK => wp_app_is w d s ts ho v u hd hs hr (hK _ _ h)
theorem step_app_is {w : World} {ops : Array Oper} {o : Oper} {a : Act} {K : Act → World → Prop} {Q : Exit → Act → World → Prop} {E : Prop} (hgd : o.guard = none) (d s : Operand) (ts : Array TypeId)
  (ho : o.op = .call { callee := .builtin .append, args := #[d, s], argTypes := ts }) (v u : Value) (hd : a.eval d = v) (hs : a.eval s = u) {v' : Value} {w' : World}
  (hr : (Builtin.append_ ts o.type #[v, u]).run P w = .ok v' w') (h : K (a.put o.dst v') w') : if Region.wanted o (yielded ops a.tmps) = true then Oper.wp P o a w K Q else E := by
 have hw : Region.wanted o (yielded ops a.tmps) = true := by simp [Region.wanted, hgd]
 rw [if_pos hw]
 exact wp_app_is w d s ts ho v u hd hs hr h
theorem wp_clear_is (w : World) {o : Oper} {a : Act} {K : Act → World → Prop} {Q : Exit → Act → World → Prop} (d : Operand) (ts : Array TypeId)
  (ho : o.op = .call { callee := .builtin .clear, args := #[d], argTypes := ts }) (v : Value) (hd : a.eval d = v) {v' : Value} {w' : World}
  (hr : (Builtin.clear_ ts o.type #[v]).run P w = .ok v' w') (h : K (a.put o.dst v') w') : o.wp P a w K Q := by
 unfold Oper.wp execOp
 simp only [ho, resolve, invoke, builtin, Sem.run_bind, Sem.run_pure, Result.andThen_ok, List.map_toArray, List.map_cons, List.map_nil, hd, hr]
 exact h
theorem wpList_clear_is (w : World) {ops : Array Oper} {rest : List Oper} {o : Oper} {a : Act} {Q : Exit → Act → World → Prop} (hgd : o.guard = none) (d : Operand) (ts : Array TypeId)
  (ho : o.op = .call { callee := .builtin .clear, args := #[d], argTypes := ts }) (v : Value) (hd : a.eval d = v) {v' : Value} {w' : World}
  (hr : (Builtin.clear_ ts o.type #[v]).run P w = .ok v' w') (h : wpList P ops Q rest (a.put o.dst v') w') : wpList P ops Q (o :: rest) a w :=
 wpList_plain hgd fun _ hK => wp_clear_is w d ts ho v hd hr (hK _ _ h)
/-! ### rows -/
theorem grown_setRow (w : World) (g : Nat) (cs : Array Value) : w.grownBy (w.setRow g cs) (some g) :=
 ⟨rfl, rfl, rfl, by simp, fun k _ hn => setRow_other w g k cs (fun e => hn (by rw [e]))⟩
theorem own_of_cells {w : World} {base g n cap sz : Nat} {e : TypeId} {cur : Array Value} {xs : List Value} (hb : base ≤ g) (hg : w.heap[g]? = some (.cells cur e (0, 0))) (hn : n ≤ cap) (hm : cap ≤ maxLen) (hs : cur.size = cap * sz) (hl : xs.length = n * sz) (hx : ∀ i, i < n * sz → cur[i]? = xs[i]?) :
  w.ownsRow base e sz (.slice (some ⟨g, 0, none⟩) n cap) n xs := by
 refine ⟨hl, .inr ⟨g, cap, cur, rfl, hb, hg, hn, hm, hs, ?_⟩⟩
 apply List.ext_getElem?
 intro i
 rw [List.getElem?_take]
 by_cases hi : i < n * sz
 ·rw [if_pos hi, ← hx i hi]; simp
 ·rw [if_neg hi, List.getElem?_eq_none (by omega)]
theorem own_open {w : World} {base n c sz : Nat} {e : TypeId} {A : Option Addr} {xs : List Value} (h : w.ownsRow base e sz (.slice A n c) n xs) (h0 : 0 < n ∨ 0 < c) :
  ∃ (g : Nat) (cur : Array Value), A = some ⟨g, 0, none⟩ ∧ base ≤ g ∧ w.heap[g]? = some (.cells cur e (0, 0)) ∧ n ≤ c ∧ c ≤ maxLen ∧ cur.size = c * sz ∧ xs.length = n * sz ∧ ∀ i, i < n * sz → cur[i]? = xs[i]? := by
 rcases h.2 with ⟨h2, h3⟩ | ⟨g, cap, cur, hv, hg, hh, hnc, hcm, hcs, ht⟩
 ·simp only [Value.slice.injEq] at h2
  omega
 ·simp only [Value.slice.injEq, true_and] at hv
  obtain ⟨rfl, rfl⟩ := hv
  refine ⟨g, cur, rfl, hg, hh, hnc, hcm, hcs, h.1, fun i hi => ?_⟩
  rw [← ht, List.getElem?_take, if_pos hi]; simp
end
theorem t3s_drop (l : List T3) : ∀ k, t3s (l.drop k) = (t3s l).drop (k * 3) := by
 induction l with
 |nil => intro k; simp [t3s]
 |cons t l ih =>
  intro k
  cases k with
  |zero => simp
  |succ k =>
   rw [List.drop_succ_cons, ih k, t3s_cons, show (k + 1) * 3 = k * 3 + 3 by omega]
   rfl
end
end Go.Proofs.YtpmmjhpmheooeaaGreatDoor
