/- The law side's own helpers on slices of three-int structs: copy, compare, mark, look. -/
import Derived.Test.YtbkgofjajhplpaaDoorMem
import Derived.Deep.RegionHeld3
namespace Go.Proofs.YtbkgofjajhplpaaDoor
set_option linter.unusedSimpArgs false
set_option linter.unusedVariables false
open Go.RowKit
theorem madeT (n : Nat) : (madeCells #[Value.int .i64 0, .int .i64 0, .int .i64 0] (n * 3)).toList = t3s (List.replicate n ⟨0, 0, 0⟩) := by
  have h1 : ∀ m, t3s (List.replicate m ⟨0, 0, 0⟩) = List.replicate (m * 3) (Value.int .i64 0) := by
    intro m
    induction m with
    | zero => rfl
    | succ m ih => rw [List.replicate_succ, t3s_cons, ih, show (m + 1) * 3 = m * 3 + 1 + 1 + 1 by omega]; rfl
  rw [h1]
  unfold madeCells
  apply List.ext_getElem (by simp)
  intro i h2 h3
  have : i % 3 = 0 ∨ i % 3 = 1 ∨ i % 3 = 2 := by omega
  rcases this with e | e | e <;> simp [e]
def tkT (l : List T3) (k : Nat) : List T3 := l.take k ++ List.replicate (l.length - k) ⟨0, 0, 0⟩
theorem tkT_len (l : List T3) (k : Nat) (h : k ≤ l.length) : (tkT l k).length = l.length := by
  unfold tkT; rw [List.length_append, List.length_take, List.length_replicate, Nat.min_eq_left h]; omega
theorem tkT_succ {l : List T3} {k : Nat} {x : T3} (h : l[k]? = some x) : (tkT l k).set k x = tkT l (k + 1) := by
  obtain ⟨hk, rfl⟩ := List.getElem?_eq_some_iff.1 h
  unfold tkT
  have e : l.length - k = (l.length - (k + 1)) + 1 := by omega
  have e2 : (l.take k).length = k := by rw [List.length_take]; omega
  rw [e, List.replicate_succ, List.set_append_right _ _ (by omega), e2, Nat.sub_self, List.set_cons_zero, List.take_add_one, h, List.append_assoc]
  rfl
theorem tkT_all (l : List T3) : tkT l l.length = l := by simp [tkT]
theorem t3s_set : ∀ (l : List T3) (k : Nat) (t : T3), k < l.length → t3s (l.set k t) = (((t3s l).set (k * 3) (.int .i64 t.x)).set (k * 3 + 1) (.int .i64 t.y)).set (k * 3 + 2) (.int .i64 t.z)
  | [], k, t, h => by simp at h
  | s :: l, 0, t, h => by rw [List.set_cons_zero, t3s_cons, t3s_cons]; rfl
  | s :: l, k + 1, t, h => by
    rw [List.set_cons_succ, t3s_cons, t3s_cons, t3s_set l k t (by simpa using h), show (k + 1) * 3 = k * 3 + 1 + 1 + 1 by omega]
    rfl
/-- A store of one struct into an owned row. -/
theorem own_setT {w : World} {base : Nat} {e : TypeId} {c : Nat} {A : Option Addr} {l : List T3} (h : w.ownsRow base e 3 (.slice A l.length c) l.length (t3s l)) {k : Nat} (hk : k < l.length) :
    ∃ g, A = some ⟨g, 0, none⟩ ∧ base ≤ g ∧ g < w.heap.size ∧ (∀ j, w.frozen? ⟨g, j, none⟩ = false) ∧ (∃ t, l[k]? = some t ∧ w.cell? ⟨g, k * 3, none⟩ = some (.int .i64 t.x) ∧ w.cell? ⟨g, k * 3 + 1, none⟩ = some (.int .i64 t.y) ∧ w.cell? ⟨g, k * 3 + 2, none⟩ = some (.int .i64 t.z)) ∧
      ∀ t : T3, (((w.setCell ⟨g, k * 3, none⟩ (.int .i64 t.x)).setCell ⟨g, k * 3 + 1, none⟩ (.int .i64 t.y)).setCell ⟨g, k * 3 + 2, none⟩ (.int .i64 t.z)).ownsRow base e 3 (.slice A l.length c) l.length (t3s (l.set k t)) ∧
        w.grownBy (((w.setCell ⟨g, k * 3, none⟩ (.int .i64 t.x)).setCell ⟨g, k * 3 + 1, none⟩ (.int .i64 t.y)).setCell ⟨g, k * 3 + 2, none⟩ (.int .i64 t.z)) (some g) := by
  rcases h.2 with ⟨_, h2⟩ | ⟨g, cap, cur, hv, hg, hh, hnc, hcm, hcs, ht⟩
  · omega
  · simp only [Value.slice.injEq, true_and] at hv
    obtain ⟨rfl, rfl⟩ := hv
    have hlt : g < w.heap.size := (Array.getElem?_eq_some_iff.1 hh).1
    have hx : l[k]? = some l[k] := List.getElem?_eq_getElem hk
    have hg3 := t3s_get hx
    refine ⟨g, rfl, hg, hlt, fun j => h.frozenAt j, ⟨l[k], hx, (h.cellAt _ (by omega)).trans hg3.1, (h.cellAt _ (by omega)).trans hg3.2.1, (h.cellAt _ (by omega)).trans hg3.2.2⟩, fun t => ?_⟩
    have s0 := h.stored (k * 3) (.int .i64 t.x)
    have s1 := s0.1.stored (k * 3 + 1) (.int .i64 t.y)
    have s2 := s1.1.stored (k * 3 + 2) (.int .i64 t.z)
    rw [t3s_set l k t hk]
    exact ⟨s2.1, grownBy_trans (grownBy_trans s0.2 s1.2) s2.2⟩
theorem infoEvT : (Tryd.prog.info? 139).map (fun i => (i.zero, i.size, i.bytes)) = some (some (.agg #[.int .i64 0, .int .i64 0, .int .i64 0]), 3, 24) := by kernel_rfl
set_option maxHeartbeats 400000 in
theorem toEvent_x (x y z : Int) (w : World) :
    Calls Tryd.prog 118 #[.agg #[.int .i64 x, .int .i64 y, .int .i64 z]] w fun e w' => e = .returned (.agg #[.int .i64 x, .int .i64 y, .int .i64 z]) ∧ ∃ o1 o2 o3 : Obj, w' = ((w.alloc o1).alloc o2).alloc o3 := by
  go_enter Tryd.func118, Tryd.ntmps118
  go_wp2
  exact bodyPost_ret (v := .agg #[.int .i64 x, .int .i64 y, .int .i64 z]) (by simp [results, Tryd.results118, go_sem]) rfl ⟨rfl, _, _, _, rfl⟩
set_option maxHeartbeats 1600000 in
theorem toEventS_any (A : Option Addr) (c : Nat) (l : List T3) (w : World) (h : RdT w w.heap.size A c l) (hs : l.length ≤ 1048576) :
    Calls Tryd.prog 91 #[.slice A l.length c] w fun e w' => ∃ A' c', e = .returned (.slice A' l.length c') ∧ w'.ownsRow w.heap.size 139 3 (.slice A' l.length c') l.length (t3s l) ∧ Below w.heap.size w w' := by
  obtain ⟨hl, hm⟩ := h.le
  obtain ⟨i0, hi, hz0, hz1, hz2⟩ := info_parts infoEvT
  go_enter Tryd.func91, Tryd.ntmps91
  go_wp2_with (at_make; refine wpList_make_full _ rfl _ _ 37 rfl w.heap.size 139 i0 _ 3 Tryd.underlying37 hi hz0 hz1 _ _ _ _ l.length rfl rfl rfl rfl (by rw [hz2]; omega) (by unfold maxLen; omega) (Nat.le_refl _) ?_)
  intro w1 hown hg
  have hb1 : Below w.heap.size w w1 := (Below.refl _ _).grown hg (Nat.le_refl _) (by simp)
  have ho : w1.ownsRow w.heap.size 139 3 (.slice (some ⟨w.heap.size, 0, none⟩) l.length l.length) l.length (t3s (tkT l 0)) := by
    have e := madeT l.length
    try unfold Value.cells at hown
    rw [e] at hown
    simpa [tkT] using hown
  have H0 := Lib.hid (And.intro hb1 ho)
  clear hown hg hb1 ho
  go_wp2
  go_loopw [4] (fun i wr => ∃ k : Nat, k ≤ l.length ∧ i = .int .i64 k ∧ wr.ownsRow w.heap.size 139 3 (.slice (some ⟨w.heap.size, 0, none⟩) l.length l.length) l.length (t3s (tkT l k)) ∧ Below w.heap.size w wr) (fun i _ => l.length - (intOf i).toNat)
  case atStart => exact ⟨0, Nat.zero_le _, rfl, H0.out.2, H0.out.1⟩
  case round =>
    obtain ⟨k, hk, rfl, ho, hb⟩ := hrel
    by_cases hlt : k < l.length
    · obtain ⟨b, o, t, rfl, hbb, hx, e0, e1, e2⟩ := h.at_ hlt
      have f0 : wr.cell? ⟨b, o + k * 3, none⟩ = some (.int .i64 t.x) := (hb.cell (p := ⟨b, _, none⟩) hbb).trans e0
      have f1 : wr.cell? ⟨b, o + k * 3 + 1, none⟩ = some (.int .i64 t.y) := (hb.cell (p := ⟨b, _, none⟩) hbb).trans e1
      have f2 : wr.cell? ⟨b, o + k * 3 + 2, none⟩ = some (.int .i64 t.z) := (hb.cell (p := ⟨b, _, none⟩) hbb).trans e2
      have hsz := hb.size
      have hal : ∀ o1 o2 o3 : Obj, ∃ g, some ({ block := w.heap.size, off := 0, spot := none } : Addr) = some ⟨g, 0, none⟩ := fun _ _ _ => ⟨_, rfl⟩
      clear hal e0 e1 e2
      have HX := Lib.hid (And.intro hx (And.intro ho hb))
      clear hx ho hb
      go_wp2_with (go_at_call 118; refine (toEvent_x _ _ _ _).mono ?_; rintro e w2 ⟨rfl, o1, o2, o3, rfl⟩; obtain ⟨g, hg, hg1, hg2, hfz, ⟨t', ht', j0, j1, j2⟩, hset⟩ := own_setT (((((by rw [tkT_len l k hk]; exact HX.out.2.1 : wr.ownsRow w.heap.size 139 3 (.slice (some ⟨w.heap.size, 0, none⟩) (tkT l k).length l.length) (tkT l k).length (t3s (tkT l k)))).alloc o1).alloc o2).alloc o3) (k := k) (by rw [tkT_len l k hk]; exact hlt); obtain rfl : w.heap.size = g := (by simpa using hg); have hz := hfz (k * 3); have hz1 := hfz (k * 3 + 1); have hz2 := hfz (k * 3 + 2); have HS := Lib.hid hset; clear hset hg ht' hg1)
      go_roundw
      case rel =>
        have hb := HX.out.2.2
        refine ⟨k + 1, by omega, by go_num, ?_, ?_⟩
        · have := (HS.out t).1
          rw [tkT_succ HX.out.1, tkT_len l k hk] at this
          exact this
        · repeat' (first | (with_reducible exact Below.refl _ _) | (with_reducible assumption) | (with_reducible refine Below.alloc ?_ ?_ _) | (with_reducible refine Below.setCell ?_ ?_ _) | (with_reducible refine Below.drew ?_) | (with_reducible refine below_drewN ?_ _) | (refine Below.trans ?_ (Below.mono (by with_reducible assumption) ?_)) | omega | (simp; done) | (simp; omega))
      case measure => simp [intOf]; omega
    · obtain rfl : k = l.length := by omega
      rw [tkT_all] at ho
      have H1 := Lib.hid (And.intro hb ho)
      clear ho hb
      go_wp2
      go_ret
      exact ⟨_, _, rfl, H1.out.2, H1.out.1⟩
theorem eqEvent_same (x y z : Int) (w : World) :
    Calls Tryd.prog 121 #[.agg #[.int .i64 x, .int .i64 y, .int .i64 z], .agg #[.int .i64 x, .int .i64 y, .int .i64 z]] w fun e w' => e = .returned (.bool true) ∧ Below w.heap.size w w' := by
  go_enter Tryd.func121, Tryd.ntmps121
  go_wp2
  go_ret
  exact ⟨rfl, by repeat' (first | (with_reducible exact Below.refl _ _) | (with_reducible assumption) | (with_reducible refine Below.alloc ?_ ?_ _) | (with_reducible refine Below.setCell ?_ ?_ _) | (with_reducible refine Below.drew ?_) | (with_reducible refine below_drewN ?_ _) | (refine Below.trans ?_ (Below.mono (by with_reducible assumption) ?_)) | omega | (simp; done) | (simp; omega))⟩
set_option maxHeartbeats 1600000 in
theorem eqEventS_same (A : Option Addr) (c : Nat) (B : Option Addr) (d : Nat) (l : List T3) (w : World) (h : RdT w w.heap.size A c l) (h' : RdT w w.heap.size B d l) :
    Calls Tryd.prog 94 #[.slice A l.length c, .slice B l.length d] w fun e w' => e = .returned (.bool true) ∧ Below w.heap.size w w' := by
  obtain ⟨hl, hm⟩ := h.le
  obtain ⟨hl', hm'⟩ := h'.le
  have hne : ((l.length : Int) != (l.length : Int)) = false := by simp
  go_enter Tryd.func94, Tryd.ntmps94
  go_wp2
  go_loopw [5] (fun i wr => ∃ k : Nat, k ≤ l.length ∧ i = .int .i64 k ∧ Below w.heap.size w wr) (fun i _ => l.length - (intOf i).toNat)
  case atStart => exact ⟨0, Nat.zero_le _, rfl, Below.refl _ _⟩
  case round =>
    obtain ⟨k, hk, rfl, hb⟩ := hrel
    have hsz := hb.size
    by_cases hlt : k < l.length
    · obtain ⟨b, o, t, rfl, hbb, hx, e0, e1, e2⟩ := h.at_ hlt
      obtain ⟨b', o', t', rfl, hbb', hx', e0', e1', e2'⟩ := h'.at_ hlt
      obtain rfl : t = t' := by rw [hx] at hx'; exact Option.some.inj hx'
      have f0 : wr.cell? ⟨b, o + k * 3, none⟩ = some (.int .i64 t.x) := (hb.cell (p := ⟨b, _, none⟩) hbb).trans e0
      have f1 : wr.cell? ⟨b, o + k * 3 + 1, none⟩ = some (.int .i64 t.y) := (hb.cell (p := ⟨b, _, none⟩) hbb).trans e1
      have f2 : wr.cell? ⟨b, o + k * 3 + 2, none⟩ = some (.int .i64 t.z) := (hb.cell (p := ⟨b, _, none⟩) hbb).trans e2
      have f3 : wr.cell? ⟨b', o' + k * 3, none⟩ = some (.int .i64 t.x) := (hb.cell (p := ⟨b', _, none⟩) hbb').trans e0'
      have f4 : wr.cell? ⟨b', o' + k * 3 + 1, none⟩ = some (.int .i64 t.y) := (hb.cell (p := ⟨b', _, none⟩) hbb').trans e1'
      have f5 : wr.cell? ⟨b', o' + k * 3 + 2, none⟩ = some (.int .i64 t.z) := (hb.cell (p := ⟨b', _, none⟩) hbb').trans e2'
      clear e0 e1 e2 e0' e1' e2' hx hx'
      have hk0 : (0 : Int) ≤ (k : Int) := by omega
      have hk1 : (k : Int) < (l.length : Int) := by omega
      have HB := Lib.hid hb; clear hb
      go_wp2
      go_region_held3 (fun w' => w'.cell? ⟨b, o + k * 3, none⟩ = some (.int .i64 t.x) ∧ w'.cell? ⟨b, o + k * 3 + 1, none⟩ = some (.int .i64 t.y) ∧ w'.cell? ⟨b, o + k * 3 + 2, none⟩ = some (.int .i64 t.z) ∧ w'.cell? ⟨b', o' + k * 3, none⟩ = some (.int .i64 t.x) ∧ w'.cell? ⟨b', o' + k * 3 + 1, none⟩ = some (.int .i64 t.y) ∧ w'.cell? ⟨b', o' + k * 3 + 2, none⟩ = some (.int .i64 t.z)) (first | (simp [*]; done) | exact ⟨y0, y1, y2, y3, y4, y5⟩)
        ((go_at_call 121; refine (eqEvent_same _ _ _ _).mono ?_; rintro e w2 ⟨rfl, hb2⟩; obtain ⟨hc2, hf2⟩ := bcell hb2; have y0 := (hc2 b _ (by show _ < wr.heap.size; omega)).trans f0; have y1 := (hc2 b _ (by show _ < wr.heap.size; omega)).trans f1; have y2 := (hc2 b _ (by show _ < wr.heap.size; omega)).trans f2; have y3 := (hc2 b' _ (by show _ < wr.heap.size; omega)).trans f3; have y4 := (hc2 b' _ (by show _ < wr.heap.size; omega)).trans f4; have y5 := (hc2 b' _ (by show _ < wr.heap.size; omega)).trans f5))
      clear f0 f1 f2 f3 f4 f5 y0 y1 y2 y3 y4 y5 hc2 hf2
      have hB2 := HB.out.drew.trans (hb2.mono hsz)
      have HB2 := Lib.hid hB2; clear hB2 hb2
      go_wp2
      go_roundw
      case rel => exact ⟨k + 1, by omega, by go_num, HB2.out⟩
      case measure => simp [intOf]; omega
    · have HB := Lib.hid hb; clear hb
      go_wp2
      go_ret
      exact ⟨rfl, HB.out⟩
end Go.Proofs.YtbkgofjajhplpaaDoor
