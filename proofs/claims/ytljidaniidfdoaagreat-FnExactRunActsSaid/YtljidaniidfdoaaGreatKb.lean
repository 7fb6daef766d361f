/- The law side's own helpers on slices of three-int structs: copy, compare, mark, look. Marks in a slice of events, and the look for them. The law side's own helpers on rights and slices of rights: copy, compare, mark, look. Acts: the copy, ActOk. Cisterns and stores. The law side's own helpers on slices of stores: copy, compare, mark, look. The law side's own helpers on slices of acts: copy, compare, look. -/
import Derived.Test.YtljidaniidfdoaaGreatKa
import Derived.Deep.RegionHeld3
namespace Go.Proofs.YtljidaniidfdoaaGreat
open Go.RowKit
theorem madeT (n : Nat) : (madeCells #[Value.int .i64 0, .int .i64 0, .int .i64 0] (n * 3)).toList = t3s (List.replicate n ⟨0, 0, 0⟩) := by
  have h1 : ∀ m, t3s (List.replicate m ⟨0, 0, 0⟩) = List.replicate (m * 3) (Value.int .i64 0) := by
    intro m
    induction m with
    | zero => rfl
    | succ m ih => rw [List.replicate_succ, t3s_cons, ih, show (m + 1) * 3 = m * 3 + 1 + 1 + 1 by omega]; rfl
  rw [h1]
  unfold madeCells
  apply List.ext_getElem (by simp)
  intro i h2 h3
  have : i % 3 = 0 ∨ i % 3 = 1 ∨ i % 3 = 2 := by omega
  rcases this with e | e | e <;> simp [e]
def tkT (l : List T3) (k : Nat) : List T3 := l.take k ++ List.replicate (l.length - k) ⟨0, 0, 0⟩
theorem tkT_len (l : List T3) (k : Nat) (h : k ≤ l.length) : (tkT l k).length = l.length := by
  unfold tkT; rw [List.length_append, List.length_take, List.length_replicate, Nat.min_eq_left h]; omega
theorem tkT_succ {l : List T3} {k : Nat} {x : T3} (h : l[k]? = some x) : (tkT l k).set k x = tkT l (k + 1) := by
  obtain ⟨hk, rfl⟩ := List.getElem?_eq_some_iff.1 h
  unfold tkT
  have e : l.length - k = (l.length - (k + 1)) + 1 := by omega
  have e2 : (l.take k).length = k := by rw [List.length_take]; omega
  rw [e, List.replicate_succ, List.set_append_right _ _ (by omega), e2, Nat.sub_self, List.set_cons_zero, List.take_add_one, h, List.append_assoc]
  rfl
theorem tkT_all (l : List T3) : tkT l l.length = l := by simp [tkT]
theorem t3s_set : ∀ (l : List T3) (k : Nat) (t : T3), k < l.length → t3s (l.set k t) = (((t3s l).set (k * 3) (.int .i64 t.x)).set (k * 3 + 1) (.int .i64 t.y)).set (k * 3 + 2) (.int .i64 t.z)
  | [], k, t, h => by simp at h
  | s :: l, 0, t, h => by rw [List.set_cons_zero, t3s_cons, t3s_cons]; rfl
  | s :: l, k + 1, t, h => by
    rw [List.set_cons_succ, t3s_cons, t3s_cons, t3s_set l k t (by simpa using h), show (k + 1) * 3 = k * 3 + 1 + 1 + 1 by omega]
    rfl
/-- A store of one struct into an owned row. -/
theorem own_setT {w : World} {base : Nat} {e : TypeId} {c : Nat} {A : Option Addr} {l : List T3} (h : w.ownsRow base e 3 (.slice A l.length c) l.length (t3s l)) {k : Nat} (hk : k < l.length) :
    ∃ g, A = some ⟨g, 0, none⟩ ∧ base ≤ g ∧ g < w.heap.size ∧ (∀ j, w.frozen? ⟨g, j, none⟩ = false) ∧ (∃ t, l[k]? = some t ∧ w.cell? ⟨g, k * 3, none⟩ = some (.int .i64 t.x) ∧ w.cell? ⟨g, k * 3 + 1, none⟩ = some (.int .i64 t.y) ∧ w.cell? ⟨g, k * 3 + 2, none⟩ = some (.int .i64 t.z)) ∧
      ∀ t : T3, (((w.setCell ⟨g, k * 3, none⟩ (.int .i64 t.x)).setCell ⟨g, k * 3 + 1, none⟩ (.int .i64 t.y)).setCell ⟨g, k * 3 + 2, none⟩ (.int .i64 t.z)).ownsRow base e 3 (.slice A l.length c) l.length (t3s (l.set k t)) ∧
        w.grownBy (((w.setCell ⟨g, k * 3, none⟩ (.int .i64 t.x)).setCell ⟨g, k * 3 + 1, none⟩ (.int .i64 t.y)).setCell ⟨g, k * 3 + 2, none⟩ (.int .i64 t.z)) (some g) := by
  rcases h.2 with ⟨_, h2⟩ | ⟨g, cap, cur, hv, hg, hh, hnc, hcm, hcs, ht⟩
  · omega
  · simp only [Value.slice.injEq, true_and] at hv
    obtain ⟨rfl, rfl⟩ := hv
    have hlt : g < w.heap.size := (Array.getElem?_eq_some_iff.1 hh).1
    have hx : l[k]? = some l[k] := List.getElem?_eq_getElem hk
    have hg3 := t3s_get hx
    refine ⟨g, rfl, hg, hlt, fun j => h.frozenAt j, ⟨l[k], hx, (h.cellAt _ (by omega)).trans hg3.1, (h.cellAt _ (by omega)).trans hg3.2.1, (h.cellAt _ (by omega)).trans hg3.2.2⟩, fun t => ?_⟩
    have s0 := h.stored (k * 3) (.int .i64 t.x)
    have s1 := s0.1.stored (k * 3 + 1) (.int .i64 t.y)
    have s2 := s1.1.stored (k * 3 + 2) (.int .i64 t.z)
    rw [t3s_set l k t hk]
    exact ⟨s2.1, grownBy_trans (grownBy_trans s0.2 s1.2) s2.2⟩
theorem infoEvT : (Tryz.prog.info? 87).map (fun i => (i.zero, i.size, i.bytes)) = some (some (.agg #[.int .i64 0, .int .i64 0, .int .i64 0]), 3, 24) := by kernel_rfl
set_option maxHeartbeats 400000 in
theorem toEvent_x (x y z : Int) (w : World) :
    Calls Tryz.prog 92 #[.agg #[.int .i64 x, .int .i64 y, .int .i64 z]] w fun e w' => e = .returned (.agg #[.int .i64 x, .int .i64 y, .int .i64 z]) ∧ ∃ o1 o2 o3 : Obj, w' = ((w.alloc o1).alloc o2).alloc o3 := by
  go_enter Tryz.func92, Tryz.ntmps92
  go_wp2
  exact bodyPost_ret (v := .agg #[.int .i64 x, .int .i64 y, .int .i64 z]) (by simp [results, Tryz.results92, go_sem]) rfl ⟨rfl, _, _, _, rfl⟩
set_option maxHeartbeats 1600000 in
theorem toEventS_any (A : Option Addr) (c : Nat) (l : List T3) (w : World) (h : RdT w w.heap.size A c l) (hs : l.length ≤ 1048576) :
    Calls Tryz.prog 68 #[.slice A l.length c] w fun e w' => ∃ A' c', e = .returned (.slice A' l.length c') ∧ w'.ownsRow w.heap.size 87 3 (.slice A' l.length c') l.length (t3s l) ∧ Below w.heap.size w w' := by
  obtain ⟨hl, hm⟩ := h.le
  obtain ⟨i0, hi, hz0, hz1, hz2⟩ := info_parts infoEvT
  go_enter Tryz.func68, Tryz.ntmps68
  go_wp2_with (at_make; refine wpList_make_full _ rfl _ _ 31 rfl w.heap.size 87 i0 _ 3 Tryz.underlying31 hi hz0 hz1 _ _ _ _ l.length rfl rfl rfl rfl (by rw [hz2]; omega) (by unfold maxLen; omega) (Nat.le_refl _) ?_)
  intro w1 hown hg
  have hb1 : Below w.heap.size w w1 := (Below.refl _ _).grown hg (Nat.le_refl _) (by simp)
  have ho : w1.ownsRow w.heap.size 87 3 (.slice (some ⟨w.heap.size, 0, none⟩) l.length l.length) l.length (t3s (tkT l 0)) := by
    have e := madeT l.length
    try unfold Value.cells at hown
    rw [e] at hown
    simpa [tkT] using hown
  have H0 := Lib.hid (And.intro hb1 ho)
  clear hown hg hb1 ho
  go_wp2
  go_loopw [4] (fun i wr => ∃ k : Nat, k ≤ l.length ∧ i = .int .i64 k ∧ wr.ownsRow w.heap.size 87 3 (.slice (some ⟨w.heap.size, 0, none⟩) l.length l.length) l.length (t3s (tkT l k)) ∧ Below w.heap.size w wr) (fun i _ => l.length - (intOf i).toNat)
  case atStart => exact ⟨0, Nat.zero_le _, rfl, H0.out.2, H0.out.1⟩
  case round =>
    obtain ⟨k, hk, rfl, ho, hb⟩ := hrel
    by_cases hlt : k < l.length
    · obtain ⟨b, o, t, rfl, hbb, hx, e0, e1, e2⟩ := h.at_ hlt
      have f0 : wr.cell? ⟨b, o + k * 3, none⟩ = some (.int .i64 t.x) := (hb.cell (p := ⟨b, _, none⟩) hbb).trans e0
      have f1 : wr.cell? ⟨b, o + k * 3 + 1, none⟩ = some (.int .i64 t.y) := (hb.cell (p := ⟨b, _, none⟩) hbb).trans e1
      have f2 : wr.cell? ⟨b, o + k * 3 + 2, none⟩ = some (.int .i64 t.z) := (hb.cell (p := ⟨b, _, none⟩) hbb).trans e2
      have hsz := hb.size
      have hal : ∀ o1 o2 o3 : Obj, ∃ g, some ({ block := w.heap.size, off := 0, spot := none } : Addr) = some ⟨g, 0, none⟩ := fun _ _ _ => ⟨_, rfl⟩
      clear hal e0 e1 e2
      have HX := Lib.hid (And.intro hx (And.intro ho hb))
      clear hx ho hb
      go_wp2_with (go_at_call 92; refine (toEvent_x _ _ _ _).mono ?_; rintro e w2 ⟨rfl, o1, o2, o3, rfl⟩; obtain ⟨g, hg, hg1, hg2, hfz, ⟨t', ht', j0, j1, j2⟩, hset⟩ := own_setT (((((by rw [tkT_len l k hk]; exact HX.out.2.1 : wr.ownsRow w.heap.size 87 3 (.slice (some ⟨w.heap.size, 0, none⟩) (tkT l k).length l.length) (tkT l k).length (t3s (tkT l k)))).alloc o1).alloc o2).alloc o3) (k := k) (by rw [tkT_len l k hk]; exact hlt); obtain rfl : w.heap.size = g := (by simpa using hg); have hz := hfz (k * 3); have hz1 := hfz (k * 3 + 1); have hz2 := hfz (k * 3 + 2); have HS := Lib.hid hset; clear hset hg ht' hg1)
      go_roundw
      case rel =>
        have hb := HX.out.2.2
        refine ⟨k + 1, by omega, by go_num, ?_, ?_⟩
        · have := (HS.out t).1
          rw [tkT_succ HX.out.1, tkT_len l k hk] at this
          exact this
        · repeat' (first | (with_reducible exact Below.refl _ _) | (with_reducible assumption) | (with_reducible refine Below.alloc ?_ ?_ _) | (with_reducible refine Below.setCell ?_ ?_ _) | (with_reducible refine Below.drew ?_) | (with_reducible refine below_drewN ?_ _) | (refine Below.trans ?_ (Below.mono (by with_reducible assumption) ?_)) | omega | (simp; done) | (simp; omega))
      case measure => simp [intOf]; omega
    · obtain rfl : k = l.length := by omega
      rw [tkT_all] at ho
      have H1 := Lib.hid (And.intro hb ho)
      clear ho hb
      go_wp2
      go_ret
      exact ⟨_, _, rfl, H1.out.2, H1.out.1⟩
theorem eqEvent_same (x y z : Int) (w : World) :
    Calls Tryz.prog 107 #[.agg #[.int .i64 x, .int .i64 y, .int .i64 z], .agg #[.int .i64 x, .int .i64 y, .int .i64 z]] w fun e w' => e = .returned (.bool true) ∧ Below w.heap.size w w' := by
  go_enter Tryz.func107, Tryz.ntmps107
  go_wp2
  go_ret
  exact ⟨rfl, by exact tacT⟩
set_option maxHeartbeats 1600000 in
theorem eqEventS_same (A : Option Addr) (c : Nat) (B : Option Addr) (d : Nat) (l : List T3) (w : World) (h : RdT w w.heap.size A c l) (h' : RdT w w.heap.size B d l) :
    Calls Tryz.prog 81 #[.slice A l.length c, .slice B l.length d] w fun e w' => e = .returned (.bool true) ∧ Below w.heap.size w w' := by
  obtain ⟨hl, hm⟩ := h.le
  obtain ⟨hl', hm'⟩ := h'.le
  have hne : ((l.length : Int) != (l.length : Int)) = false := by simp
  go_enter Tryz.func81, Tryz.ntmps81
  go_wp2
  go_loopw [5] (fun i wr => ∃ k : Nat, k ≤ l.length ∧ i = .int .i64 k ∧ Below w.heap.size w wr) (fun i _ => l.length - (intOf i).toNat)
  case atStart => exact ⟨0, Nat.zero_le _, rfl, Below.refl _ _⟩
  case round =>
    obtain ⟨k, hk, rfl, hb⟩ := hrel
    have hsz := hb.size
    by_cases hlt : k < l.length
    · obtain ⟨b, o, t, rfl, hbb, hx, e0, e1, e2⟩ := h.at_ hlt
      obtain ⟨b', o', t', rfl, hbb', hx', e0', e1', e2'⟩ := h'.at_ hlt
      obtain rfl : t = t' := by rw [hx] at hx'; exact Option.some.inj hx'
      have f0 : wr.cell? ⟨b, o + k * 3, none⟩ = some (.int .i64 t.x) := (hb.cell (p := ⟨b, _, none⟩) hbb).trans e0
      have f1 : wr.cell? ⟨b, o + k * 3 + 1, none⟩ = some (.int .i64 t.y) := (hb.cell (p := ⟨b, _, none⟩) hbb).trans e1
      have f2 : wr.cell? ⟨b, o + k * 3 + 2, none⟩ = some (.int .i64 t.z) := (hb.cell (p := ⟨b, _, none⟩) hbb).trans e2
      have f3 : wr.cell? ⟨b', o' + k * 3, none⟩ = some (.int .i64 t.x) := (hb.cell (p := ⟨b', _, none⟩) hbb').trans e0'
      have f4 : wr.cell? ⟨b', o' + k * 3 + 1, none⟩ = some (.int .i64 t.y) := (hb.cell (p := ⟨b', _, none⟩) hbb').trans e1'
      have f5 : wr.cell? ⟨b', o' + k * 3 + 2, none⟩ = some (.int .i64 t.z) := (hb.cell (p := ⟨b', _, none⟩) hbb').trans e2'
      clear e0 e1 e2 e0' e1' e2' hx hx'
      have hk0 : (0 : Int) ≤ (k : Int) := by omega
      have hk1 : (k : Int) < (l.length : Int) := by omega
      have HB := Lib.hid hb; clear hb
      go_wp2
      go_region_held3 (fun w' => w'.cell? ⟨b, o + k * 3, none⟩ = some (.int .i64 t.x) ∧ w'.cell? ⟨b, o + k * 3 + 1, none⟩ = some (.int .i64 t.y) ∧ w'.cell? ⟨b, o + k * 3 + 2, none⟩ = some (.int .i64 t.z) ∧ w'.cell? ⟨b', o' + k * 3, none⟩ = some (.int .i64 t.x) ∧ w'.cell? ⟨b', o' + k * 3 + 1, none⟩ = some (.int .i64 t.y) ∧ w'.cell? ⟨b', o' + k * 3 + 2, none⟩ = some (.int .i64 t.z)) (first | (simp [*]; done) | exact ⟨y0, y1, y2, y3, y4, y5⟩)
        ((go_at_call 107; refine (eqEvent_same _ _ _ _).mono ?_; rintro e w2 ⟨rfl, hb2⟩; obtain ⟨hc2, hf2⟩ := bcell hb2; have y0 := (hc2 b _ (by show _ < wr.heap.size; omega)).trans f0; have y1 := (hc2 b _ (by show _ < wr.heap.size; omega)).trans f1; have y2 := (hc2 b _ (by show _ < wr.heap.size; omega)).trans f2; have y3 := (hc2 b' _ (by show _ < wr.heap.size; omega)).trans f3; have y4 := (hc2 b' _ (by show _ < wr.heap.size; omega)).trans f4; have y5 := (hc2 b' _ (by show _ < wr.heap.size; omega)).trans f5))
      clear f0 f1 f2 f3 f4 f5 y0 y1 y2 y3 y4 y5 hc2 hf2
      have hB2 := HB.out.drew.trans (hb2.mono hsz)
      have HB2 := Lib.hid hB2; clear hB2 hb2
      go_wp2
      go_roundw
      case rel => exact ⟨k + 1, by omega, by go_num, HB2.out⟩
      case measure => simp [intOf]; omega
    · have HB := Lib.hid hb; clear hb
      go_wp2
      go_ret
      exact ⟨rfl, HB.out⟩
end Go.Proofs.YtljidaniidfdoaaGreat

namespace Go.Proofs.YtljidaniidfdoaaGreat
open Go.RowKit
def tm (k : Nat) : T3 := ⟨(k : Int), (k : Int) + 1, (k : Int) + 2⟩
def marksT (k n : Nat) : List T3 := (List.range n).map fun i => tm (k + 3 * i)
theorem marksT_len (k n : Nat) : (marksT k n).length = n := by simp [marksT]
theorem marksT_succ (k n : Nat) : marksT k (n + 1) = marksT k n ++ [tm (k + 3 * n)] := by
  unfold marksT; rw [List.range_succ]; simp
theorem marksT_get (k n j : Nat) (h : j < n) : (marksT k n)[j]? = some (tm (k + 3 * j)) := by
  unfold marksT; rw [List.getElem?_map, List.getElem?_range h]; rfl
def mkT (l : List T3) (k i : Nat) : List T3 := marksT k i ++ l.drop i
theorem mkT_len (l : List T3) (k i : Nat) (h : i ≤ l.length) : (mkT l k i).length = l.length := by simp [mkT, marksT_len]; omega
theorem mkT_all (l : List T3) (k : Nat) : mkT l k l.length = marksT k l.length := by simp [mkT]
theorem mkT_succ (l : List T3) (k i : Nat) (h : i < l.length) : (mkT l k i).set i (tm (k + 3 * i)) = mkT l k (i + 1) := by
  unfold mkT
  rw [List.set_append_right _ _ (by rw [marksT_len]; omega), marksT_len, Nat.sub_self, List.drop_eq_getElem_cons h, List.set_cons_zero, marksT_succ, List.append_assoc]
  rfl
set_option maxHeartbeats 800000 in
theorem markEventS_any (A : Option Addr) (c base : Nat) (l : List T3) (k : Nat) (w : World) (h : w.ownsRow base 87 3 (.slice A l.length c) l.length (t3s l)) (hs : l.length ≤ 1048576 * 64) (hkk : k ≤ 1048576 * 64) :
    Calls Tryz.prog 83 #[.slice A l.length c, .int .i64 k] w fun e w' => e = .returned (.int .i64 ((k + 3 * l.length : Nat) : Int)) ∧ w'.ownsRow base 87 3 (.slice A l.length c) l.length (t3s (marksT k l.length)) ∧ w.grownBy w' (Value.slice A l.length c).ownBlock := by
  go_enter Tryz.func83, Tryz.ntmps83
  go_wp2
  go_loopw [1, 5] (fun kk i wr => ∃ j : Nat, j ≤ l.length ∧ i = .int .i64 j ∧ kk = .int .i64 ((k + 3 * j : Nat) : Int) ∧ wr.ownsRow base 87 3 (.slice A l.length c) l.length (t3s (mkT l k j)) ∧ w.grownBy wr (Value.slice A l.length c).ownBlock) (fun _ i _ => l.length - (intOf i).toNat)
  case atStart => exact ⟨0, Nat.zero_le _, rfl, rfl, h, World.grownBy.refl _ _⟩
  case round =>
    obtain ⟨j, hj, rfl, rfl, ho, hgr⟩ := hrel
    have hlen := mkT_len l k j hj
    by_cases hlt : j < l.length
    · obtain ⟨g, hg, hg1, hg2, hfz, ⟨t, hx, e0, e1, e2⟩, hset⟩ := own_setT (l := mkT l k j) (k := j) (by rw [hlen]; exact ho) (by rw [hlen]; exact hlt)
      subst hg
      obtain ⟨ho', hgr'⟩ := hset (tm (k + 3 * j))
      rw [mkT_succ l k j hlt, hlen] at ho'
      have H1 := Lib.hid (And.intro (grownBy_trans hgr hgr') ho')
      clear ho hgr hgr' ho' hset hlen hx
      go_wp2
      go_roundw
      case rel => exact ⟨j + 1, by omega, by go_num, by go_num, H1.out.2, H1.out.1⟩
      case measure => simp [intOf]; omega
    · obtain rfl : j = l.length := by omega
      rw [mkT_all] at ho
      have H1 := Lib.hid (And.intro hgr ho)
      clear ho hgr hlen
      go_wp2
      go_ret
      exact ⟨by simp, H1.out.2, H1.out.1⟩
theorem markEventS_2 (A : Option Addr) (c lo hi : Nat) (l : List T3) (k : Nat) (kz : Int) (hk : kz = k) (w : World) (h : Row2 w lo hi 87 3 A l.length c (t3s l)) (hs : l.length ≤ 1048576 * 64) (hkk : k ≤ 1048576 * 64) :
    Calls Tryz.prog 83 #[.slice A l.length c, .int .i64 kz] w fun e w' => e = .returned (.int .i64 (kz + 3 * l.length)) ∧ Row2 w' lo hi 87 3 A l.length c (t3s (marksT k l.length)) ∧ Chg lo hi w w' := by
  subst hk
  exact (markEventS_any A c lo l k w h.1 hs hkk).mono fun e w' ⟨h1, h2, h3⟩ => ⟨by rw [h1]; simp, ⟨h2, h.2⟩, h.wrote h3⟩
set_option maxHeartbeats 800000 in
theorem heldEventS_any (A : Option Addr) (c n k : Nat) (w : World) (h : Rd w w.heap.size 3 A n c (t3s (marksT k n))) (hs : n ≤ 1048576 * 64) (hkk : k ≤ 1048576 * 64) :
    Calls Tryz.prog 84 #[.slice A n c, .int .i64 k] w fun e w' => e = .returned (.int .i64 ((k + 3 * n : Nat) : Int)) ∧ w = w' := by
  have hT : RdT w w.heap.size A c (marksT k n) := by unfold RdT; rw [marksT_len]; exact h
  go_enter Tryz.func84, Tryz.ntmps84
  go_wp2
  go_loop [1, 5] (fun kk i => ∃ j : Nat, j ≤ n ∧ i = .int .i64 j ∧ kk = .int .i64 ((k + 3 * j : Nat) : Int)) (fun _ i => n - (intOf i).toNat)
  case atStart => exact ⟨0, Nat.zero_le _, rfl, rfl⟩
  case round =>
    obtain ⟨j, hj, rfl, rfl⟩ := hrel
    by_cases hlt : j < n
    · obtain ⟨b, o, t, rfl, hbb, hx, e0, e1, e2⟩ := hT.at_ (k := j) (by rw [marksT_len]; exact hlt)
      rw [marksT_get k n j hlt] at hx
      injection hx with hx
      subst hx
      simp only [tm] at e0 e1 e2
      go_wp2
      go_round
      case rel => exact ⟨j + 1, by omega, by go_num, by go_num⟩
      case measure => simp [intOf]; omega
    · obtain rfl : j = n := by omega
      go_wp2
      go_ret
      exact ⟨by simp, rfl⟩
theorem heldEventS_2 (A : Option Addr) (c lo hi n k : Nat) (kz : Int) (hk : kz = k) (w : World) (h : Row2 w lo hi 87 3 A n c (t3s (marksT k n))) (hs : n ≤ 1048576 * 64) (hkk : k ≤ 1048576 * 64) :
    Calls Tryz.prog 84 #[.slice A n c, .int .i64 kz] w fun e w' => e = .returned (.int .i64 (kz + 3 * n)) ∧ Below w.heap.size w w' := by
  subst hk
  have := post_s (heldEventS_any A c n k w h.rd hs hkk)
  simpa using this
end Go.Proofs.YtljidaniidfdoaaGreat

namespace Go.Proofs.YtljidaniidfdoaaGreat
open Go.RowKit
set_option maxRecDepth 20000
set_option maxHeartbeats 400000 in
theorem toFraction_any (x y : Int) (w : World) :
    Calls Tryz.prog 93 #[.agg #[.int .i64 x, .int .i64 y]] w fun e w' => e = .returned (.agg #[.int .i64 x, .int .i64 y]) ∧ Below w.heap.size w w' := by
  go_enter Tryz.func93, Tryz.ntmps93
  go_wp2
  exact bodyPost_ret (v := .agg #[.int .i64 x, .int .i64 y]) (by simp [results, Tryz.results93, go_sem]) rfl ⟨rfl, by exact tacT⟩
theorem eqFraction_same (x y : Int) (w : World) :
    Calls Tryz.prog 108 #[.agg #[.int .i64 x, .int .i64 y], .agg #[.int .i64 x, .int .i64 y]] w fun e w' => e = .returned (.bool true) ∧ Below w.heap.size w w' := by
  go_enter Tryz.func108, Tryz.ntmps108
  go_wp2
  go_ret
  exact ⟨rfl, by exact tacT⟩
set_option maxHeartbeats 800000 in
theorem toRight_any (x y z : Int) (w : World) :
    Calls Tryz.prog 69 #[.agg #[.int .i64 x, .int .i64 y, .int .i64 z]] w fun e w' => e = .returned (.agg #[.int .i64 x, .int .i64 y, .int .i64 z]) ∧ Below w.heap.size w w' := by
  have hB := Below.refl w.heap.size w
  go_enter Tryz.func69, Tryz.ntmps69
  go_wp2_with fail
  first | refine name_world ?_ | refine name_wp ?_
  intro W1 hW
  replace hB : Below w.heap.size w W1 := by rw [hW]; exact tacT
  have hz_W1 : w.heap.size ≤ W1.heap.size := by rw [hW]; first | (simp; done) | (simp; omega)
  replace kb_a : Blk W1 (w.heap.size) 98 #[.int .i64 x, .int .i64 y, .int .i64 z] := by rw [hW]; exact blkT
  have hLW1_a := kb_a.lt
  replace kb_r : Blk W1 (w.heap.size + 1) 92 #[.int .i64 0, .int .i64 0, .int .i64 0] := by rw [hW]; exact blkT
  have hLW1_r := kb_r.lt
  replace kb_o : Blk W1 (w.heap.size + 2) 92 #[.int .i64 x, .int .i64 0, .int .i64 0] := by rw [hW]; exact blkT
  have hLW1_o := kb_o.lt
  try clear kc_a kf_a
  try clear kc_r kf_r
  try clear kc_o kf_o
  clear hW
  refine (toFraction_any _ _ _).mono ?_
  rintro e w1 ⟨rfl, hb⟩
  replace hB := hB.trans (Below.mono hb hB.size)
  have hz_w1 : W1.heap.size ≤ w1.heap.size := Below.size hb
  replace kb_a := Blk.below kb_a hb (by first | exact kb_a.lt | (have := kb_a.lt; omega))
  have kc_a := kb_a.cells
  have kf_a := kb_a.frozens
  have hl_a := kb_a.lt
  have hn_a := Nat.ne_of_lt kb_a.lt
  replace kb_r := Blk.below kb_r hb (by first | exact kb_r.lt | (have := kb_r.lt; omega))
  have kc_r := kb_r.cells
  have kf_r := kb_r.frozens
  have hl_r := kb_r.lt
  have hn_r := Nat.ne_of_lt kb_r.lt
  replace kb_o := Blk.below kb_o hb (by first | exact kb_o.lt | (have := kb_o.lt; omega))
  have kc_o := kb_o.cells
  have kf_o := kb_o.frozens
  have hl_o := kb_o.lt
  have hn_o := Nat.ne_of_lt kb_o.lt
  clear hb
  go_wp2_with fail
  exact bodyPost_ret (v := .agg #[.int .i64 x, .int .i64 y, .int .i64 z]) (by simp [results, Tryz.results69, go_sem, kc_a, kc_r, kc_o]) rfl ⟨rfl, by exact tacT⟩
theorem eqRight_same (x y z : Int) (w : World) :
    Calls Tryz.prog 82 #[.agg #[.int .i64 x, .int .i64 y, .int .i64 z], .agg #[.int .i64 x, .int .i64 y, .int .i64 z]] w fun e w' => e = .returned (.bool true) ∧ Below w.heap.size w w' := by
  have hB := Below.refl w.heap.size w
  have hd : (x != x) = false := by simp
  go_enter Tryz.func82, Tryz.ntmps82
  go_wp2_with fail
  first | refine name_world ?_ | refine name_wp ?_
  intro W1 hW
  replace hB : Below w.heap.size w W1 := by rw [hW]; exact tacT
  have hz_W1 : w.heap.size ≤ W1.heap.size := by rw [hW]; first | (simp; done) | (simp; omega)
  replace kb_a : Blk W1 (w.heap.size) 92 #[.int .i64 x, .int .i64 y, .int .i64 z] := by rw [hW]; exact blkT
  have hLW1_a := kb_a.lt
  try clear kc_a kf_a
  clear hW
  refine (eqFraction_same _ _ _).mono ?_
  rintro e w1 ⟨rfl, hb⟩
  replace hB := hB.trans (Below.mono hb hB.size)
  have hz_w1 : W1.heap.size ≤ w1.heap.size := Below.size hb
  replace kb_a := Blk.below kb_a hb (by first | exact kb_a.lt | (have := kb_a.lt; omega))
  have kc_a := kb_a.cells
  have kf_a := kb_a.frozens
  have hl_a := kb_a.lt
  have hn_a := Nat.ne_of_lt kb_a.lt
  clear hb
  go_wp2_with fail
  go_ret
  exact ⟨rfl, by exact tacT⟩
theorem infoRight : (Tryz.prog.info? 92).map (fun i => (i.zero, i.size, i.bytes)) = some (some (.agg #[.int .i64 0, .int .i64 0, .int .i64 0]), 3, 24) := by kernel_rfl
set_option maxHeartbeats 1600000 in
theorem toRightS_any (A : Option Addr) (c : Nat) (l : List T3) (w : World) (h : RdT w w.heap.size A c l) (hs : l.length ≤ 1048576) :
    Calls Tryz.prog 39 #[.slice A l.length c] w fun e w' => ∃ A' c', e = .returned (.slice A' l.length c') ∧ w'.ownsRow w.heap.size 92 3 (.slice A' l.length c') l.length (t3s l) ∧ Below w.heap.size w w' := by
  obtain ⟨hl, hm⟩ := h.le
  obtain ⟨i0, hi, hz0, hz1, hz2⟩ := info_parts infoRight
  go_enter Tryz.func39, Tryz.ntmps39
  go_wp2_with (at_make; refine wpList_make_full _ rfl _ _ 34 rfl w.heap.size 92 i0 _ 3 Tryz.underlying34 hi hz0 hz1 _ _ _ _ l.length rfl rfl rfl rfl (by rw [hz2]; omega) (by unfold maxLen; omega) (Nat.le_refl _) ?_)
  intro w1 hown hg
  have hb1 : Below w.heap.size w w1 := (Below.refl _ _).grown hg (Nat.le_refl _) (by simp)
  have ho : w1.ownsRow w.heap.size 92 3 (.slice (some ⟨w.heap.size, 0, none⟩) l.length l.length) l.length (t3s (tkT l 0)) := by
    have e := madeT l.length
    try unfold Value.cells at hown
    rw [e] at hown
    simpa [tkT] using hown
  have H0 := Lib.hid (And.intro hb1 ho)
  clear hown hg hb1 ho
  go_wp2
  go_loopw [4] (fun i wr => ∃ k : Nat, k ≤ l.length ∧ i = .int .i64 k ∧ wr.ownsRow w.heap.size 92 3 (.slice (some ⟨w.heap.size, 0, none⟩) l.length l.length) l.length (t3s (tkT l k)) ∧ Below w.heap.size w wr) (fun i _ => l.length - (intOf i).toNat)
  case atStart => exact ⟨0, Nat.zero_le _, rfl, H0.out.2, H0.out.1⟩
  case round =>
    obtain ⟨k, hk, rfl, ho, hb⟩ := hrel
    by_cases hlt : k < l.length
    · obtain ⟨b, o, t, rfl, hbb, hx, e0, e1, e2⟩ := h.at_ hlt
      have f0 : wr.cell? ⟨b, o + k * 3, none⟩ = some (.int .i64 t.x) := (hb.cell (p := ⟨b, _, none⟩) hbb).trans e0
      have f1 : wr.cell? ⟨b, o + k * 3 + 1, none⟩ = some (.int .i64 t.y) := (hb.cell (p := ⟨b, _, none⟩) hbb).trans e1
      have f2 : wr.cell? ⟨b, o + k * 3 + 2, none⟩ = some (.int .i64 t.z) := (hb.cell (p := ⟨b, _, none⟩) hbb).trans e2
      have hsz := hb.size
      clear e0 e1 e2
      have HX := Lib.hid (And.intro hx (And.intro ho hb))
      clear hx ho hb
      go_wp2_with (go_at_call 69; refine (toRight_any _ _ _ _).mono ?_; rintro e w2 ⟨rfl, hb2⟩; obtain ⟨g, hg, hg1, hg2, hfz, ⟨t', ht', j0, j1, j2⟩, hset⟩ := own_setT (own_below (by rw [tkT_len l k hk]; exact HX.out.2.1 : wr.ownsRow w.heap.size 92 3 (.slice (some ⟨w.heap.size, 0, none⟩) (tkT l k).length l.length) (tkT l k).length (t3s (tkT l k))) hb2 (Nat.le_refl _)) (k := k) (by rw [tkT_len l k hk]; exact hlt); obtain rfl : w.heap.size = g := (by simpa using hg); have hz := hfz (k * 3); have hz1 := hfz (k * 3 + 1); have hz2 := hfz (k * 3 + 2); have HS := Lib.hid (And.intro hset hb2); clear hset hg ht' hg1 hb2)
      go_roundw
      case rel =>
        have hb := HX.out.2.2
        refine ⟨k + 1, by omega, by go_num, ?_, ?_⟩
        · have := (HS.out.1 t).1
          rw [tkT_succ HX.out.1, tkT_len l k hk] at this
          exact this
        · have hb2 := HS.out.2
          repeat' (first | (with_reducible exact Below.refl _ _) | (with_reducible assumption) | (with_reducible refine Below.alloc ?_ ?_ _) | (with_reducible refine Below.setCell ?_ ?_ _) | (with_reducible refine Below.drew ?_) | (with_reducible refine below_drewN ?_ _) | (refine Below.trans ?_ (Below.mono (by with_reducible assumption) ?_)) | omega | (simp; done) | (simp; omega))
      case measure => simp [intOf]; omega
    · obtain rfl : k = l.length := by omega
      rw [tkT_all] at ho
      have H1 := Lib.hid (And.intro hb ho)
      clear ho hb
      go_wp2
      go_ret
      exact ⟨_, _, rfl, H1.out.2, H1.out.1⟩
set_option maxHeartbeats 1600000 in
theorem eqRightS_same (A : Option Addr) (c : Nat) (B : Option Addr) (d : Nat) (l : List T3) (w : World) (h : RdT w w.heap.size A c l) (h' : RdT w w.heap.size B d l) :
    Calls Tryz.prog 50 #[.slice A l.length c, .slice B l.length d] w fun e w' => e = .returned (.bool true) ∧ Below w.heap.size w w' := by
  obtain ⟨hl, hm⟩ := h.le
  obtain ⟨hl', hm'⟩ := h'.le
  have hne : ((l.length : Int) != (l.length : Int)) = false := by simp
  go_enter Tryz.func50, Tryz.ntmps50
  go_wp2
  go_loopw [5] (fun i wr => ∃ k : Nat, k ≤ l.length ∧ i = .int .i64 k ∧ Below w.heap.size w wr) (fun i _ => l.length - (intOf i).toNat)
  case atStart => exact ⟨0, Nat.zero_le _, rfl, Below.refl _ _⟩
  case round =>
    obtain ⟨k, hk, rfl, hB⟩ := hrel
    have hsz := hB.size
    by_cases hlt : k < l.length
    · obtain ⟨b, o, t, rfl, hbb, hx, e0, e1, e2⟩ := h.at_ hlt
      obtain ⟨b', o', t', rfl, hbb', hx', e0', e1', e2'⟩ := h'.at_ hlt
      obtain rfl : t = t' := by rw [hx] at hx'; exact Option.some.inj hx'
      have g0 : ∀ (z : NewW wr), z.w.cell? ⟨b, o + k * 3, none⟩ = some (.int .i64 t.x) := fun z => NewW.cell ((hB.cell (p := ⟨b, _, none⟩) hbb).trans e0) z
      have g1 : ∀ (z : NewW wr), z.w.cell? ⟨b, o + k * 3 + 1, none⟩ = some (.int .i64 t.y) := fun z => NewW.cell ((hB.cell (p := ⟨b, _, none⟩) hbb).trans e1) z
      have g2 : ∀ (z : NewW wr), z.w.cell? ⟨b, o + k * 3 + 2, none⟩ = some (.int .i64 t.z) := fun z => NewW.cell ((hB.cell (p := ⟨b, _, none⟩) hbb).trans e2) z
      have g3 : ∀ (z : NewW wr), z.w.cell? ⟨b', o' + k * 3, none⟩ = some (.int .i64 t.x) := fun z => NewW.cell ((hB.cell (p := ⟨b', _, none⟩) hbb').trans e0') z
      have g4 : ∀ (z : NewW wr), z.w.cell? ⟨b', o' + k * 3 + 1, none⟩ = some (.int .i64 t.y) := fun z => NewW.cell ((hB.cell (p := ⟨b', _, none⟩) hbb').trans e1') z
      have g5 : ∀ (z : NewW wr), z.w.cell? ⟨b', o' + k * 3 + 2, none⟩ = some (.int .i64 t.z) := fun z => NewW.cell ((hB.cell (p := ⟨b', _, none⟩) hbb').trans e2') z
      clear e0 e1 e2 e0' e1' e2' hx hx'
      have hk0 : (0 : Int) ≤ (k : Int) := by omega
      have hk1 : (k : Int) < (l.length : Int) := by omega
      go_wp2
      refine wp_region_new (by kernel_rfl) (by kernel_rfl) ?_
      repeat (go_big_quiet_step ((go_at_call 82; exact NewW.call (eqRight_same _ _ _ _))))
      refine wpQuiet_nil ?_
      intro w2 hw'
      obtain ⟨hx, hw''⟩ := hw'
      have hb2 := hx.h
      rw [← hw''] at hb2
      clear hw'' hx
      clear g0 g1 g2 g3 g4 g5
      replace hB := hB.trans (Below.mono hb2 hB.size)
      have hz_w2 : wr.heap.size ≤ w2.heap.size := Below.size hb2
      clear hb2
      go_wp2
      go_roundw
      case rel => exact ⟨k + 1, by omega, by go_num, hB⟩
      case measure => simp [intOf]; omega
    · go_wp2
      go_ret
      exact ⟨rfl, hB⟩
set_option maxHeartbeats 400000 in
theorem szRightS_ok1 (A : Option Addr) (n c : Nat) (left : Int) (w : World) (h : (n : Int) ≤ left) (h2 : left ≤ 1048576) :
    Calls Tryz.prog 27 #[.slice A n c, .int .i64 left] w fun e w' => e = .returned (.int .i64 (left - n)) ∧ w = w' := by
  go_enter Tryz.func27, Tryz.ntmps27
  go_wp2
  go_ret
  exact ⟨rfl, rfl⟩
theorem szRightS_ok (A : Option Addr) (c : Nat) (l : List T3) (left : Int) (w : World) (h : (l.length : Int) ≤ left) (h2 : left ≤ 1048576) :
    Calls Tryz.prog 27 #[.slice A l.length c, .int .i64 left] w fun e w' => e = .returned (.int .i64 (left - l.length)) ∧ Below w.heap.size w w' := post_s (szRightS_ok1 _ _ _ _ _ h h2)
set_option maxHeartbeats 400000 in
theorem szRightS_big1 (A : Option Addr) (n c : Nat) (left : Int) (w : World) (h : left < n) (h1 : 0 ≤ left) (h2 : n ≤ 9223372036854775807) :
    Calls Tryz.prog 27 #[.slice A n c, .int .i64 left] w fun e w' => e = .returned (.int .i64 (-1)) ∧ w = w' := by
  go_enter Tryz.func27, Tryz.ntmps27
  go_wp2
  go_ret
  exact ⟨rfl, rfl⟩
theorem szRightS_big (A : Option Addr) (c : Nat) (l : List T3) (left : Int) (w : World) (h : left < (l.length : Int)) (h1 : 0 ≤ left) (h2 : l.length ≤ 9223372036854775807) :
    Calls Tryz.prog 27 #[.slice A l.length c, .int .i64 left] w fun e w' => e = .returned (.int .i64 (-1)) ∧ Below w.heap.size w w' := post_s (szRightS_big1 _ _ _ _ _ h h1 h2)
set_option maxHeartbeats 800000 in
theorem markRightS_any (A : Option Addr) (c base : Nat) (l : List T3) (k : Nat) (w : World) (h : w.ownsRow base 92 3 (.slice A l.length c) l.length (t3s l)) (hs : l.length ≤ 1048576 * 64) (hkk : k ≤ 1048576 * 64) :
    Calls Tryz.prog 52 #[.slice A l.length c, .int .i64 k] w fun e w' => e = .returned (.int .i64 ((k + 3 * l.length : Nat) : Int)) ∧ w'.ownsRow base 92 3 (.slice A l.length c) l.length (t3s (marksT k l.length)) ∧ w.grownBy w' (Value.slice A l.length c).ownBlock := by
  go_enter Tryz.func52, Tryz.ntmps52
  go_wp2
  go_loopw [1, 5] (fun kk i wr => ∃ j : Nat, j ≤ l.length ∧ i = .int .i64 j ∧ kk = .int .i64 ((k + 3 * j : Nat) : Int) ∧ wr.ownsRow base 92 3 (.slice A l.length c) l.length (t3s (mkT l k j)) ∧ w.grownBy wr (Value.slice A l.length c).ownBlock) (fun _ i _ => l.length - (intOf i).toNat)
  case atStart => exact ⟨0, Nat.zero_le _, rfl, rfl, h, World.grownBy.refl _ _⟩
  case round =>
    obtain ⟨j, hj, rfl, rfl, ho, hgr⟩ := hrel
    have hlen := mkT_len l k j hj
    by_cases hlt : j < l.length
    · obtain ⟨g, hg, hg1, hg2, hfz, ⟨t, hx, e0, e1, e2⟩, hset⟩ := own_setT (l := mkT l k j) (k := j) (by rw [hlen]; exact ho) (by rw [hlen]; exact hlt)
      subst hg
      obtain ⟨ho', hgr'⟩ := hset (tm (k + 3 * j))
      rw [mkT_succ l k j hlt, hlen] at ho'
      have H1 := Lib.hid (And.intro (grownBy_trans hgr hgr') ho')
      clear ho hgr hgr' ho' hset hlen hx
      go_wp2
      go_roundw
      case rel => exact ⟨j + 1, by omega, by go_num, by go_num, H1.out.2, H1.out.1⟩
      case measure => simp [intOf]; omega
    · obtain rfl : j = l.length := by omega
      rw [mkT_all] at ho
      have H1 := Lib.hid (And.intro hgr ho)
      clear ho hgr hlen
      go_wp2
      go_ret
      exact ⟨by simp, H1.out.2, H1.out.1⟩
theorem markRightS_2 (A : Option Addr) (c lo hi : Nat) (l : List T3) (k : Nat) (kz : Int) (hk : kz = k) (w : World) (h : Row2 w lo hi 92 3 A l.length c (t3s l)) (hs : l.length ≤ 1048576 * 64) (hkk : k ≤ 1048576 * 64) :
    Calls Tryz.prog 52 #[.slice A l.length c, .int .i64 kz] w fun e w' => e = .returned (.int .i64 (kz + 3 * l.length)) ∧ Row2 w' lo hi 92 3 A l.length c (t3s (marksT k l.length)) ∧ Chg lo hi w w' := by
  subst hk
  exact (markRightS_any A c lo l k w h.1 hs hkk).mono fun e w' ⟨h1, h2, h3⟩ => ⟨by rw [h1]; simp, ⟨h2, h.2⟩, h.wrote h3⟩
set_option maxHeartbeats 800000 in
theorem heldRightS_any (A : Option Addr) (c n k : Nat) (w : World) (h : Rd w w.heap.size 3 A n c (t3s (marksT k n))) (hs : n ≤ 1048576 * 64) (hkk : k ≤ 1048576 * 64) :
    Calls Tryz.prog 54 #[.slice A n c, .int .i64 k] w fun e w' => e = .returned (.int .i64 ((k + 3 * n : Nat) : Int)) ∧ w = w' := by
  have hT : RdT w w.heap.size A c (marksT k n) := by unfold RdT; rw [marksT_len]; exact h
  go_enter Tryz.func54, Tryz.ntmps54
  go_wp2
  go_loop [1, 5] (fun kk i => ∃ j : Nat, j ≤ n ∧ i = .int .i64 j ∧ kk = .int .i64 ((k + 3 * j : Nat) : Int)) (fun _ i => n - (intOf i).toNat)
  case atStart => exact ⟨0, Nat.zero_le _, rfl, rfl⟩
  case round =>
    obtain ⟨j, hj, rfl, rfl⟩ := hrel
    by_cases hlt : j < n
    · obtain ⟨b, o, t, rfl, hbb, hx, e0, e1, e2⟩ := hT.at_ (k := j) (by rw [marksT_len]; exact hlt)
      rw [marksT_get k n j hlt] at hx
      injection hx with hx
      subst hx
      simp only [tm] at e0 e1 e2
      go_wp2
      go_round
      case rel => exact ⟨j + 1, by omega, by go_num, by go_num⟩
      case measure => simp [intOf]; omega
    · obtain rfl : j = n := by omega
      go_wp2
      go_ret
      exact ⟨by simp, rfl⟩
theorem heldRightS_2 (A : Option Addr) (c lo hi n k : Nat) (kz : Int) (hk : kz = k) (w : World) (h : Row2 w lo hi 92 3 A n c (t3s (marksT k n))) (hs : n ≤ 1048576 * 64) (hkk : k ≤ 1048576 * 64) :
    Calls Tryz.prog 54 #[.slice A n c, .int .i64 kz] w fun e w' => e = .returned (.int .i64 (kz + 3 * n)) ∧ Below w.heap.size w w' := by
  subst hk
  have := post_s (heldRightS_any A c n k w h.rd hs hkk)
  simpa using this
end Go.Proofs.YtljidaniidfdoaaGreat

namespace Go.Proofs.YtljidaniidfdoaaGreat
open Go.RowKit
def actOk (k a b : Int) : Bool :=
  if k = 1 ∨ k = 3 then inB a 0 1000 && (b == 0)
  else if k = 2 then inB a 1 99 && inB b 0 1000
  else if k = 4 then inB a 1 99 && inB b 1 99
  else if k = 5 then inB a 1 99 && inB b 1 98
  else if k = 6 then inB a 1 99 && (b == 0)
  else false
set_option maxHeartbeats 400000 in
theorem toAct_any (x y z : Int) (w : World) :
    Calls Tryz.prog 9 #[.agg #[.int .i64 x, .int .i64 y, .int .i64 z]] w fun e w' => e = .returned (.agg #[.int .i64 x, .int .i64 y, .int .i64 z]) ∧ Below w.heap.size w w' := by
  go_enter Tryz.func9, Tryz.ntmps9
  go_wp2
  exact bodyPost_ret (v := .agg #[.int .i64 x, .int .i64 y, .int .i64 z]) (by simp [results, Tryz.results9, go_sem]) rfl ⟨rfl, by repeat' (first | exact Below.refl _ _ | refine Below.alloc ?_ ?_ _ | refine Below.setCell ?_ ?_ _ | (simp; done) | (simp; omega))⟩
set_option maxHeartbeats 1600000 in
theorem ActOkS_any (x y z : Int) (w : World) :
    Calls Tryz.prog 30 #[.agg #[.int .i64 x, .int .i64 y, .int .i64 z]] w fun e w' => e = .returned (.bool (actOk x y z)) ∧ Below w.heap.size w w' := by
  by_cases h1 : x = 1 ∨ x = 3
  · have e1 : actOk x y z = (inB y 0 1000 && (z == 0)) := by unfold actOk; rw [if_pos h1]
    have E1 := Lib.hid e1; clear e1
    rcases h1 with rfl | rfl
    all_goals
      cases hi : inB y 0 1000
      all_goals
        go_enter Tryz.func30, Tryz.ntmps30
        go_wp2_with (go_at_call 62; refine (l01In_any _ _ _ _).mono ?_; rintro e w' ⟨rfl, rfl⟩)
        go_ret
        exact ⟨by rw [E1.out, hi]; rfl, (Below.refl _ _).alloc (Nat.le_refl _) _⟩
  by_cases h2 : x = 2
  · have e1 : actOk x y z = (inB y 1 99 && inB z 0 1000) := by unfold actOk; rw [if_neg h1, if_pos h2]
    have E1 := Lib.hid e1; clear e1 h1
    subst h2
    cases hi : inB y 1 99
    all_goals
      go_enter Tryz.func30, Tryz.ntmps30
      go_wp2_with (go_at_call 62; refine (l01In_any _ _ _ _).mono ?_; rintro e w' ⟨rfl, rfl⟩)
      go_ret
      exact ⟨by rw [E1.out, hi]; rfl, (Below.refl _ _).alloc (Nat.le_refl _) _⟩
  by_cases h4 : x = 4
  · have e1 : actOk x y z = (inB y 1 99 && inB z 1 99) := by unfold actOk; rw [if_neg h1, if_neg h2, if_pos h4]
    have E1 := Lib.hid e1; clear e1 h1 h2
    subst h4
    cases hi : inB y 1 99
    all_goals
      go_enter Tryz.func30, Tryz.ntmps30
      go_wp2_with (go_at_call 62; refine (l01In_any _ _ _ _).mono ?_; rintro e w' ⟨rfl, rfl⟩)
      go_ret
      exact ⟨by rw [E1.out, hi]; rfl, (Below.refl _ _).alloc (Nat.le_refl _) _⟩
  by_cases h5 : x = 5
  · have e1 : actOk x y z = (inB y 1 99 && inB z 1 98) := by unfold actOk; rw [if_neg h1, if_neg h2, if_neg h4, if_pos h5]
    have E1 := Lib.hid e1; clear e1 h1 h2 h4
    subst h5
    cases hi : inB y 1 99
    all_goals
      go_enter Tryz.func30, Tryz.ntmps30
      go_wp2_with (go_at_call 62; refine (l01In_any _ _ _ _).mono ?_; rintro e w' ⟨rfl, rfl⟩)
      go_ret
      exact ⟨by rw [E1.out, hi]; rfl, (Below.refl _ _).alloc (Nat.le_refl _) _⟩
  by_cases h6 : x = 6
  · have e1 : actOk x y z = (inB y 1 99 && (z == 0)) := by unfold actOk; rw [if_neg h1, if_neg h2, if_neg h4, if_neg h5, if_pos h6]
    have E1 := Lib.hid e1; clear e1 h1 h2 h4 h5
    subst h6
    cases hi : inB y 1 99
    all_goals
      go_enter Tryz.func30, Tryz.ntmps30
      go_wp2_with (go_at_call 62; refine (l01In_any _ _ _ _).mono ?_; rintro e w' ⟨rfl, rfl⟩)
      go_ret
      exact ⟨by rw [E1.out, hi]; rfl, (Below.refl _ _).alloc (Nat.le_refl _) _⟩
  have e1 : actOk x y z = false := by unfold actOk; rw [if_neg h1, if_neg h2, if_neg h4, if_neg h5, if_neg h6]
  have E1 := Lib.hid e1; clear e1
  have g1 : (x == 1) = false := by simp; omega
  have g3 : (x == 3) = false := by simp; omega
  have g2 : (x == 2) = false := by simp; omega
  have g4 : (x == 4) = false := by simp; omega
  have g5 : (x == 5) = false := by simp; omega
  have g6 : (x == 6) = false := by simp; omega
  clear h1 h2 h4 h5 h6
  go_enter Tryz.func30, Tryz.ntmps30
  go_wp2
  go_ret
  exact ⟨by rw [E1.out]; rfl, (Below.refl _ _).alloc (Nat.le_refl _) _⟩
set_option maxHeartbeats 1600000 in
theorem ActOk_any (x y z : Int) (w : World) :
    Calls Tryz.prog 41 #[.agg #[.int .i64 x, .int .i64 y, .int .i64 z]] w fun e w' => e = .returned (.bool (actOk x y z)) ∧ Below w.heap.size w w' := by
  by_cases h1 : x = 1 ∨ x = 3
  · have e1 : actOk x y z = (inB y 0 1000 && (z == 0)) := by unfold actOk; rw [if_pos h1]
    have E1 := Lib.hid e1; clear e1
    rcases h1 with rfl | rfl
    all_goals
      cases hi : inB y 0 1000
      all_goals
        go_enter Tryz.func41, Tryz.ntmps41
        go_wp2_with (go_at_call 72; refine (within_any _ _ _ _).mono ?_; rintro e w' ⟨rfl, rfl⟩)
        go_ret
        exact ⟨by rw [E1.out, hi]; rfl, (Below.refl _ _).alloc (Nat.le_refl _) _⟩
  by_cases h2 : x = 2
  · have e1 : actOk x y z = (inB y 1 99 && inB z 0 1000) := by unfold actOk; rw [if_neg h1, if_pos h2]
    have E1 := Lib.hid e1; clear e1 h1
    subst h2
    cases hi : inB y 1 99
    all_goals
      go_enter Tryz.func41, Tryz.ntmps41
      go_wp2_with (go_at_call 72; refine (within_any _ _ _ _).mono ?_; rintro e w' ⟨rfl, rfl⟩)
      go_ret
      exact ⟨by rw [E1.out, hi]; rfl, (Below.refl _ _).alloc (Nat.le_refl _) _⟩
  by_cases h4 : x = 4
  · have e1 : actOk x y z = (inB y 1 99 && inB z 1 99) := by unfold actOk; rw [if_neg h1, if_neg h2, if_pos h4]
    have E1 := Lib.hid e1; clear e1 h1 h2
    subst h4
    cases hi : inB y 1 99
    all_goals
      go_enter Tryz.func41, Tryz.ntmps41
      go_wp2_with (go_at_call 72; refine (within_any _ _ _ _).mono ?_; rintro e w' ⟨rfl, rfl⟩)
      go_ret
      exact ⟨by rw [E1.out, hi]; rfl, (Below.refl _ _).alloc (Nat.le_refl _) _⟩
  by_cases h5 : x = 5
  · have e1 : actOk x y z = (inB y 1 99 && inB z 1 98) := by unfold actOk; rw [if_neg h1, if_neg h2, if_neg h4, if_pos h5]
    have E1 := Lib.hid e1; clear e1 h1 h2 h4
    subst h5
    cases hi : inB y 1 99
    all_goals
      go_enter Tryz.func41, Tryz.ntmps41
      go_wp2_with (go_at_call 72; refine (within_any _ _ _ _).mono ?_; rintro e w' ⟨rfl, rfl⟩)
      go_ret
      exact ⟨by rw [E1.out, hi]; rfl, (Below.refl _ _).alloc (Nat.le_refl _) _⟩
  by_cases h6 : x = 6
  · have e1 : actOk x y z = (inB y 1 99 && (z == 0)) := by unfold actOk; rw [if_neg h1, if_neg h2, if_neg h4, if_neg h5, if_pos h6]
    have E1 := Lib.hid e1; clear e1 h1 h2 h4 h5
    subst h6
    cases hi : inB y 1 99
    all_goals
      go_enter Tryz.func41, Tryz.ntmps41
      go_wp2_with (go_at_call 72; refine (within_any _ _ _ _).mono ?_; rintro e w' ⟨rfl, rfl⟩)
      go_ret
      exact ⟨by rw [E1.out, hi]; rfl, (Below.refl _ _).alloc (Nat.le_refl _) _⟩
  have e1 : actOk x y z = false := by unfold actOk; rw [if_neg h1, if_neg h2, if_neg h4, if_neg h5, if_neg h6]
  have E1 := Lib.hid e1; clear e1
  have g1 : (x == 1) = false := by simp; omega
  have g3 : (x == 3) = false := by simp; omega
  have g2 : (x == 2) = false := by simp; omega
  have g4 : (x == 4) = false := by simp; omega
  have g5 : (x == 5) = false := by simp; omega
  have g6 : (x == 6) = false := by simp; omega
  clear h1 h2 h4 h5 h6
  go_enter Tryz.func41, Tryz.ntmps41
  go_wp2
  go_ret
  exact ⟨by rw [E1.out]; rfl, (Below.refl _ _).alloc (Nat.le_refl _) _⟩
end Go.Proofs.YtljidaniidfdoaaGreat

namespace Go.Proofs.YtljidaniidfdoaaGreat
open Go.RowKit
def cisOk (r l : Int) : Bool := inB r 1 1000000 && inB l 0 r
def storeOk (r l v : Int) : Bool := cisOk r l && inB v 0 r
def takeOut (r l n : Int) : Int × Int × Int := if cisOk r l && inB n 0 1000000 then (r, l - min n l, min n l) else (r, l, -1)
def usable (r l v : Int) : Int := if storeOk r l v then max 0 (l - v) else -1
def useWater (r l v n : Int) : Int × Int × Int × Int :=
  if storeOk r l v && inB n 0 1000000 then ((takeOut r l (min n (usable r l v))).1, (takeOut r l (min n (usable r l v))).2.1, v, (takeOut r l (min n (usable r l v))).2.2) else (r, l, v, -1)
theorem useWater_no {x y z n : Int} (h : storeOk x y z = false ∨ inB n 0 1000000 = false) : useWater x y z n = (x, y, z, -1) := by
  unfold useWater; rcases h with h | h <;> simp [h]
theorem useWater_yes {x y z n : Int} (h1 : storeOk x y z = true) (h2 : inB n 0 1000000 = true) : useWater x y z n = ((takeOut x y (min n (usable x y z))).1, (takeOut x y (min n (usable x y z))).2.1, z, (takeOut x y (min n (usable x y z))).2.2) := by
  unfold useWater; rw [h1, h2]; rfl
end Go.Proofs.YtljidaniidfdoaaGreat

namespace Go.Proofs.YtljidaniidfdoaaGreat
open Go.RowKit
set_option maxRecDepth 20000
end Go.Proofs.YtljidaniidfdoaaGreat

namespace Go.Proofs.YtljidaniidfdoaaGreat
open Go.RowKit
set_option maxRecDepth 20000
theorem eqAct_same (x y z : Int) (w : World) :
    Calls Tryz.prog 55 #[.agg #[.int .i64 x, .int .i64 y, .int .i64 z], .agg #[.int .i64 x, .int .i64 y, .int .i64 z]] w fun e w' => e = .returned (.bool true) ∧ Below w.heap.size w w' := by
  have d1 : (x != x) = false := by simp
  have d2 : (y != y) = false := by simp
  have d3 : (z != z) = false := by simp
  go_enter Tryz.func55, Tryz.ntmps55
  go_wp2
  go_ret
  exact ⟨rfl, by exact tacT⟩
theorem infoAct : (Tryz.prog.info? 40).map (fun i => (i.zero, i.size, i.bytes)) = some (some (.agg #[.int .i64 0, .int .i64 0, .int .i64 0]), 3, 24) := by kernel_rfl
set_option maxHeartbeats 1600000 in
theorem toActS_any (A : Option Addr) (c : Nat) (l : List T3) (w : World) (h : RdT w w.heap.size A c l) (hs : l.length ≤ 1048576) :
    Calls Tryz.prog 16 #[.slice A l.length c] w fun e w' => ∃ A' c', e = .returned (.slice A' l.length c') ∧ w'.ownsRow w.heap.size 40 3 (.slice A' l.length c') l.length (t3s l) ∧ Below w.heap.size w w' := by
  obtain ⟨hl, hm⟩ := h.le
  obtain ⟨i0, hi, hz0, hz1, hz2⟩ := info_parts infoAct
  go_enter Tryz.func16, Tryz.ntmps16
  go_wp2_with (at_make; refine wpList_make_full _ rfl _ _ 50 rfl w.heap.size 40 i0 _ 3 Tryz.underlying50 hi hz0 hz1 _ _ _ _ l.length rfl rfl rfl rfl (by rw [hz2]; omega) (by unfold maxLen; omega) (Nat.le_refl _) ?_)
  intro w1 hown hg
  have hb1 : Below w.heap.size w w1 := (Below.refl _ _).grown hg (Nat.le_refl _) (by simp)
  have ho : w1.ownsRow w.heap.size 40 3 (.slice (some ⟨w.heap.size, 0, none⟩) l.length l.length) l.length (t3s (tkT l 0)) := by
    have e := madeT l.length
    try unfold Value.cells at hown
    rw [e] at hown
    simpa [tkT] using hown
  have H0 := Lib.hid (And.intro hb1 ho)
  clear hown hg hb1 ho
  go_wp2
  go_loopw [4] (fun i wr => ∃ k : Nat, k ≤ l.length ∧ i = .int .i64 k ∧ wr.ownsRow w.heap.size 40 3 (.slice (some ⟨w.heap.size, 0, none⟩) l.length l.length) l.length (t3s (tkT l k)) ∧ Below w.heap.size w wr) (fun i _ => l.length - (intOf i).toNat)
  case atStart => exact ⟨0, Nat.zero_le _, rfl, H0.out.2, H0.out.1⟩
  case round =>
    obtain ⟨k, hk, rfl, ho, hb⟩ := hrel
    by_cases hlt : k < l.length
    · obtain ⟨b, o, t, rfl, hbb, hx, e0, e1, e2⟩ := h.at_ hlt
      have f0 : wr.cell? ⟨b, o + k * 3, none⟩ = some (.int .i64 t.x) := (hb.cell (p := ⟨b, _, none⟩) hbb).trans e0
      have f1 : wr.cell? ⟨b, o + k * 3 + 1, none⟩ = some (.int .i64 t.y) := (hb.cell (p := ⟨b, _, none⟩) hbb).trans e1
      have f2 : wr.cell? ⟨b, o + k * 3 + 2, none⟩ = some (.int .i64 t.z) := (hb.cell (p := ⟨b, _, none⟩) hbb).trans e2
      have hsz := hb.size
      clear e0 e1 e2
      have HX := Lib.hid (And.intro hx (And.intro ho hb))
      clear hx ho hb
      go_wp2_with (go_at_call 9; refine (toAct_any _ _ _ _).mono ?_; rintro e w2 ⟨rfl, hb2⟩; obtain ⟨g, hg, hg1, hg2, hfz, ⟨t', ht', j0, j1, j2⟩, hset⟩ := own_setT (own_below (by rw [tkT_len l k hk]; exact HX.out.2.1 : wr.ownsRow w.heap.size 40 3 (.slice (some ⟨w.heap.size, 0, none⟩) (tkT l k).length l.length) (tkT l k).length (t3s (tkT l k))) hb2 (Nat.le_refl _)) (k := k) (by rw [tkT_len l k hk]; exact hlt); obtain rfl : w.heap.size = g := (by simpa using hg); have hz := hfz (k * 3); have hz1 := hfz (k * 3 + 1); have hz2 := hfz (k * 3 + 2); have HS := Lib.hid (And.intro hset hb2); clear hset hg ht' hg1 hb2)
      go_roundw
      case rel =>
        have hb := HX.out.2.2
        refine ⟨k + 1, by omega, by go_num, ?_, ?_⟩
        · have := (HS.out.1 t).1
          rw [tkT_succ HX.out.1, tkT_len l k hk] at this
          exact this
        · have hb2 := HS.out.2
          repeat' (first | (with_reducible exact Below.refl _ _) | (with_reducible assumption) | (with_reducible refine Below.alloc ?_ ?_ _) | (with_reducible refine Below.setCell ?_ ?_ _) | (with_reducible refine Below.drew ?_) | (with_reducible refine below_drewN ?_ _) | (refine Below.trans ?_ (Below.mono (by with_reducible assumption) ?_)) | omega | (simp; done) | (simp; omega))
      case measure => simp [intOf]; omega
    · obtain rfl : k = l.length := by omega
      rw [tkT_all] at ho
      have H1 := Lib.hid (And.intro hb ho)
      clear ho hb
      go_wp2
      go_ret
      exact ⟨_, _, rfl, H1.out.2, H1.out.1⟩
set_option maxHeartbeats 1600000 in
theorem eqActS_same (A : Option Addr) (c : Nat) (B : Option Addr) (d : Nat) (l : List T3) (w : World) (h : RdT w w.heap.size A c l) (h' : RdT w w.heap.size B d l) :
    Calls Tryz.prog 19 #[.slice A l.length c, .slice B l.length d] w fun e w' => e = .returned (.bool true) ∧ Below w.heap.size w w' := by
  obtain ⟨hl, hm⟩ := h.le
  obtain ⟨hl', hm'⟩ := h'.le
  have hne : ((l.length : Int) != (l.length : Int)) = false := by simp
  go_enter Tryz.func19, Tryz.ntmps19
  go_wp2
  go_loopw [5] (fun i wr => ∃ k : Nat, k ≤ l.length ∧ i = .int .i64 k ∧ Below w.heap.size w wr) (fun i _ => l.length - (intOf i).toNat)
  case atStart => exact ⟨0, Nat.zero_le _, rfl, Below.refl _ _⟩
  case round =>
    obtain ⟨k, hk, rfl, hB⟩ := hrel
    have hsz := hB.size
    by_cases hlt : k < l.length
    · obtain ⟨b, o, t, rfl, hbb, hx, e0, e1, e2⟩ := h.at_ hlt
      obtain ⟨b', o', t', rfl, hbb', hx', e0', e1', e2'⟩ := h'.at_ hlt
      obtain rfl : t = t' := by rw [hx] at hx'; exact Option.some.inj hx'
      have g0 : ∀ (z : NewW wr), z.w.cell? ⟨b, o + k * 3, none⟩ = some (.int .i64 t.x) := fun z => NewW.cell ((hB.cell (p := ⟨b, _, none⟩) hbb).trans e0) z
      have g1 : ∀ (z : NewW wr), z.w.cell? ⟨b, o + k * 3 + 1, none⟩ = some (.int .i64 t.y) := fun z => NewW.cell ((hB.cell (p := ⟨b, _, none⟩) hbb).trans e1) z
      have g2 : ∀ (z : NewW wr), z.w.cell? ⟨b, o + k * 3 + 2, none⟩ = some (.int .i64 t.z) := fun z => NewW.cell ((hB.cell (p := ⟨b, _, none⟩) hbb).trans e2) z
      have g3 : ∀ (z : NewW wr), z.w.cell? ⟨b', o' + k * 3, none⟩ = some (.int .i64 t.x) := fun z => NewW.cell ((hB.cell (p := ⟨b', _, none⟩) hbb').trans e0') z
      have g4 : ∀ (z : NewW wr), z.w.cell? ⟨b', o' + k * 3 + 1, none⟩ = some (.int .i64 t.y) := fun z => NewW.cell ((hB.cell (p := ⟨b', _, none⟩) hbb').trans e1') z
      have g5 : ∀ (z : NewW wr), z.w.cell? ⟨b', o' + k * 3 + 2, none⟩ = some (.int .i64 t.z) := fun z => NewW.cell ((hB.cell (p := ⟨b', _, none⟩) hbb').trans e2') z
      clear e0 e1 e2 e0' e1' e2' hx hx'
      have hk0 : (0 : Int) ≤ (k : Int) := by omega
      have hk1 : (k : Int) < (l.length : Int) := by omega
      go_wp2
      refine wp_region_new (by kernel_rfl) (by kernel_rfl) ?_
      repeat (go_big_quiet_step ((go_at_call 55; exact NewW.call (eqAct_same _ _ _ _))))
      refine wpQuiet_nil ?_
      intro w2 hw'
      obtain ⟨hx, hw''⟩ := hw'
      have hb2 := hx.h
      rw [← hw''] at hb2
      clear hw'' hx
      clear g0 g1 g2 g3 g4 g5
      replace hB := hB.trans (Below.mono hb2 hB.size)
      have hz_w2 : wr.heap.size ≤ w2.heap.size := Below.size hb2
      clear hb2
      go_wp2
      go_roundw
      case rel => exact ⟨k + 1, by omega, by go_num, hB⟩
      case measure => simp [intOf]; omega
    · go_wp2
      go_ret
      exact ⟨rfl, hB⟩
set_option maxHeartbeats 400000 in
theorem szActS_ok1 (A : Option Addr) (n c : Nat) (left : Int) (w : World) (h : (n : Int) ≤ left) (h2 : left ≤ 1048576) :
    Calls Tryz.prog 14 #[.slice A n c, .int .i64 left] w fun e w' => e = .returned (.int .i64 (left - n)) ∧ w = w' := by
  go_enter Tryz.func14, Tryz.ntmps14
  go_wp2
  go_ret
  exact ⟨rfl, rfl⟩
theorem szActS_ok (A : Option Addr) (c : Nat) (l : List T3) (left : Int) (w : World) (h : (l.length : Int) ≤ left) (h2 : left ≤ 1048576) :
    Calls Tryz.prog 14 #[.slice A l.length c, .int .i64 left] w fun e w' => e = .returned (.int .i64 (left - l.length)) ∧ Below w.heap.size w w' := post_s (szActS_ok1 _ _ _ _ _ h h2)
set_option maxHeartbeats 400000 in
theorem szActS_big1 (A : Option Addr) (n c : Nat) (left : Int) (w : World) (h : left < n) (h1 : 0 ≤ left) (h2 : n ≤ 9223372036854775807) :
    Calls Tryz.prog 14 #[.slice A n c, .int .i64 left] w fun e w' => e = .returned (.int .i64 (-1)) ∧ w = w' := by
  go_enter Tryz.func14, Tryz.ntmps14
  go_wp2
  go_ret
  exact ⟨rfl, rfl⟩
theorem szActS_big (A : Option Addr) (c : Nat) (l : List T3) (left : Int) (w : World) (h : left < (l.length : Int)) (h1 : 0 ≤ left) (h2 : l.length ≤ 9223372036854775807) :
    Calls Tryz.prog 14 #[.slice A l.length c, .int .i64 left] w fun e w' => e = .returned (.int .i64 (-1)) ∧ Below w.heap.size w w' := post_s (szActS_big1 _ _ _ _ _ h h1 h2)
set_option maxHeartbeats 800000 in
theorem markActS_any (A : Option Addr) (c base : Nat) (l : List T3) (k : Nat) (w : World) (h : w.ownsRow base 40 3 (.slice A l.length c) l.length (t3s l)) (hs : l.length ≤ 1048576 * 64) (hkk : k ≤ 1048576 * 64) :
    Calls Tryz.prog 20 #[.slice A l.length c, .int .i64 k] w fun e w' => e = .returned (.int .i64 ((k + 3 * l.length : Nat) : Int)) ∧ w'.ownsRow base 40 3 (.slice A l.length c) l.length (t3s (marksT k l.length)) ∧ w.grownBy w' (Value.slice A l.length c).ownBlock := by
  go_enter Tryz.func20, Tryz.ntmps20
  go_wp2
  go_loopw [1, 5] (fun kk i wr => ∃ j : Nat, j ≤ l.length ∧ i = .int .i64 j ∧ kk = .int .i64 ((k + 3 * j : Nat) : Int) ∧ wr.ownsRow base 40 3 (.slice A l.length c) l.length (t3s (mkT l k j)) ∧ w.grownBy wr (Value.slice A l.length c).ownBlock) (fun _ i _ => l.length - (intOf i).toNat)
  case atStart => exact ⟨0, Nat.zero_le _, rfl, rfl, h, World.grownBy.refl _ _⟩
  case round =>
    obtain ⟨j, hj, rfl, rfl, ho, hgr⟩ := hrel
    have hlen := mkT_len l k j hj
    by_cases hlt : j < l.length
    · obtain ⟨g, hg, hg1, hg2, hfz, ⟨t, hx, e0, e1, e2⟩, hset⟩ := own_setT (l := mkT l k j) (k := j) (by rw [hlen]; exact ho) (by rw [hlen]; exact hlt)
      subst hg
      obtain ⟨ho', hgr'⟩ := hset (tm (k + 3 * j))
      rw [mkT_succ l k j hlt, hlen] at ho'
      have H1 := Lib.hid (And.intro (grownBy_trans hgr hgr') ho')
      clear ho hgr hgr' ho' hset hlen hx
      go_wp2
      go_roundw
      case rel => exact ⟨j + 1, by omega, by go_num, by go_num, H1.out.2, H1.out.1⟩
      case measure => simp [intOf]; omega
    · obtain rfl : j = l.length := by omega
      rw [mkT_all] at ho
      have H1 := Lib.hid (And.intro hgr ho)
      clear ho hgr hlen
      go_wp2
      go_ret
      exact ⟨by simp, H1.out.2, H1.out.1⟩
theorem markActS_2 (A : Option Addr) (c lo hi : Nat) (l : List T3) (k : Nat) (kz : Int) (hk : kz = k) (w : World) (h : Row2 w lo hi 40 3 A l.length c (t3s l)) (hs : l.length ≤ 1048576 * 64) (hkk : k ≤ 1048576 * 64) :
    Calls Tryz.prog 20 #[.slice A l.length c, .int .i64 kz] w fun e w' => e = .returned (.int .i64 (kz + 3 * l.length)) ∧ Row2 w' lo hi 40 3 A l.length c (t3s (marksT k l.length)) ∧ Chg lo hi w w' := by
  subst hk
  exact (markActS_any A c lo l k w h.1 hs hkk).mono fun e w' ⟨h1, h2, h3⟩ => ⟨by rw [h1]; simp, ⟨h2, h.2⟩, h.wrote h3⟩
end Go.Proofs.YtljidaniidfdoaaGreat
