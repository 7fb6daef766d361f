/- The law side's own helpers on slices of acts: copy, compare, look. -/
import Derived.Test.YtnedbdpcimhfgaaDoorTo3R
import Derived.Test.YtnedbdpcimhfgaaDoorAct
namespace Go.Proofs.YtnedbdpcimhfgaaDoor
open Go.RowKit
set_option maxRecDepth 20000
theorem eqAct_same (x y z : Int) (w : World) :
    Calls Tryd.prog 28 #[.agg #[.int .i64 x, .int .i64 y, .int .i64 z], .agg #[.int .i64 x, .int .i64 y, .int .i64 z]] w fun e w' => e = .returned (.bool true) ∧ Below w.heap.size w w' := by
  have d1 : (x != x) = false := by simp
  have d2 : (y != y) = false := by simp
  have d3 : (z != z) = false := by simp
  go_enter Tryd.func28, Tryd.ntmps28
  go_wp2
  go_ret
  exact ⟨rfl, by repeat' (first | (with_reducible exact Below.refl _ _) | (with_reducible assumption) | (with_reducible refine Below.alloc ?_ ?_ _) | (with_reducible refine Below.setCell ?_ ?_ _) | (with_reducible refine Below.drew ?_) | (with_reducible refine below_drewN ?_ _) | (refine Below.trans ?_ (Below.mono (by with_reducible assumption) ?_)) | omega | (simp; done) | (simp; omega))⟩
theorem infoAct : (Tryd.prog.info? 36).map (fun i => (i.zero, i.size, i.bytes)) = some (some (.agg #[.int .i64 0, .int .i64 0, .int .i64 0]), 3, 24) := by kernel_rfl
set_option maxHeartbeats 1600000 in
theorem toActS_any (A : Option Addr) (c : Nat) (l : List T3) (w : World) (h : RdT w w.heap.size A c l) (hs : l.length ≤ 1048576) :
    Calls Tryd.prog 14 #[.slice A l.length c] w fun e w' => ∃ A' c', e = .returned (.slice A' l.length c') ∧ w'.ownsRow w.heap.size 36 3 (.slice A' l.length c') l.length (t3s l) ∧ Below w.heap.size w w' := by
  obtain ⟨hl, hm⟩ := h.le
  obtain ⟨i0, hi, hz0, hz1, hz2⟩ := info_parts infoAct
  go_enter Tryd.func14, Tryd.ntmps14
  go_wp2_with (at_make; refine wpList_make_full _ rfl _ _ 42 rfl w.heap.size 36 i0 _ 3 Tryd.underlying42 hi hz0 hz1 _ _ _ _ l.length rfl rfl rfl rfl (by rw [hz2]; omega) (by unfold maxLen; omega) (Nat.le_refl _) ?_)
  intro w1 hown hg
  have hb1 : Below w.heap.size w w1 := (Below.refl _ _).grown hg (Nat.le_refl _) (by simp)
  have ho : w1.ownsRow w.heap.size 36 3 (.slice (some ⟨w.heap.size, 0, none⟩) l.length l.length) l.length (t3s (tkT l 0)) := by
    have e := madeT l.length
    try unfold Value.cells at hown
    rw [e] at hown
    simpa [tkT] using hown
  have H0 := Lib.hid (And.intro hb1 ho)
  clear hown hg hb1 ho
  go_wp2
  go_loopw [4] (fun i wr => ∃ k : Nat, k ≤ l.length ∧ i = .int .i64 k ∧ wr.ownsRow w.heap.size 36 3 (.slice (some ⟨w.heap.size, 0, none⟩) l.length l.length) l.length (t3s (tkT l k)) ∧ Below w.heap.size w wr) (fun i _ => l.length - (intOf i).toNat)
  case atStart => exact ⟨0, Nat.zero_le _, rfl, H0.out.2, H0.out.1⟩
  case round =>
    obtain ⟨k, hk, rfl, ho, hb⟩ := hrel
    by_cases hlt : k < l.length
    · obtain ⟨b, o, t, rfl, hbb, hx, e0, e1, e2⟩ := h.at_ hlt
      have f0 : wr.cell? ⟨b, o + k * 3, none⟩ = some (.int .i64 t.x) := (hb.cell (p := ⟨b, _, none⟩) hbb).trans e0
      have f1 : wr.cell? ⟨b, o + k * 3 + 1, none⟩ = some (.int .i64 t.y) := (hb.cell (p := ⟨b, _, none⟩) hbb).trans e1
      have f2 : wr.cell? ⟨b, o + k * 3 + 2, none⟩ = some (.int .i64 t.z) := (hb.cell (p := ⟨b, _, none⟩) hbb).trans e2
      have hsz := hb.size
      clear e0 e1 e2
      have HX := Lib.hid (And.intro hx (And.intro ho hb))
      clear hx ho hb
      go_wp2_with (go_at_call 10; refine (toAct_any _ _ _ _).mono ?_; rintro e w2 ⟨rfl, hb2⟩; obtain ⟨g, hg, hg1, hg2, hfz, ⟨t', ht', j0, j1, j2⟩, hset⟩ := own_setT (own_below (by rw [tkT_len l k hk]; exact HX.out.2.1 : wr.ownsRow w.heap.size 36 3 (.slice (some ⟨w.heap.size, 0, none⟩) (tkT l k).length l.length) (tkT l k).length (t3s (tkT l k))) hb2 (Nat.le_refl _)) (k := k) (by rw [tkT_len l k hk]; exact hlt); obtain rfl : w.heap.size = g := (by simpa using hg); have hz := hfz (k * 3); have hz1 := hfz (k * 3 + 1); have hz2 := hfz (k * 3 + 2); have HS := Lib.hid (And.intro hset hb2); clear hset hg ht' hg1 hb2)
      go_roundw
      case rel =>
        have hb := HX.out.2.2
        refine ⟨k + 1, by omega, by go_num, ?_, ?_⟩
        · have := (HS.out.1 t).1
          rw [tkT_succ HX.out.1, tkT_len l k hk] at this
          exact this
        · have hb2 := HS.out.2
          repeat' (first | (with_reducible exact Below.refl _ _) | (with_reducible assumption) | (with_reducible refine Below.alloc ?_ ?_ _) | (with_reducible refine Below.setCell ?_ ?_ _) | (with_reducible refine Below.drew ?_) | (with_reducible refine below_drewN ?_ _) | (refine Below.trans ?_ (Below.mono (by with_reducible assumption) ?_)) | omega | (simp; done) | (simp; omega))
      case measure => simp [intOf]; omega
    · obtain rfl : k = l.length := by omega
      rw [tkT_all] at ho
      have H1 := Lib.hid (And.intro hb ho)
      clear ho hb
      go_wp2
      go_ret
      exact ⟨_, _, rfl, H1.out.2, H1.out.1⟩
set_option maxHeartbeats 1600000 in
theorem eqActS_same (A : Option Addr) (c : Nat) (B : Option Addr) (d : Nat) (l : List T3) (w : World) (h : RdT w w.heap.size A c l) (h' : RdT w w.heap.size B d l) :
    Calls Tryd.prog 16 #[.slice A l.length c, .slice B l.length d] w fun e w' => e = .returned (.bool true) ∧ Below w.heap.size w w' := by
  obtain ⟨hl, hm⟩ := h.le
  obtain ⟨hl', hm'⟩ := h'.le
  have hne : ((l.length : Int) != (l.length : Int)) = false := by simp
  go_enter Tryd.func16, Tryd.ntmps16
  go_wp2
  go_loopw [5] (fun i wr => ∃ k : Nat, k ≤ l.length ∧ i = .int .i64 k ∧ Below w.heap.size w wr) (fun i _ => l.length - (intOf i).toNat)
  case atStart => exact ⟨0, Nat.zero_le _, rfl, Below.refl _ _⟩
  case round =>
    obtain ⟨k, hk, rfl, hB⟩ := hrel
    have hsz := hB.size
    by_cases hlt : k < l.length
    · obtain ⟨b, o, t, rfl, hbb, hx, e0, e1, e2⟩ := h.at_ hlt
      obtain ⟨b', o', t', rfl, hbb', hx', e0', e1', e2'⟩ := h'.at_ hlt
      obtain rfl : t = t' := by rw [hx] at hx'; exact Option.some.inj hx'
      have g0 : ∀ (z : NewW wr), z.w.cell? ⟨b, o + k * 3, none⟩ = some (.int .i64 t.x) := fun z => NewW.cell ((hB.cell (p := ⟨b, _, none⟩) hbb).trans e0) z
      have g1 : ∀ (z : NewW wr), z.w.cell? ⟨b, o + k * 3 + 1, none⟩ = some (.int .i64 t.y) := fun z => NewW.cell ((hB.cell (p := ⟨b, _, none⟩) hbb).trans e1) z
      have g2 : ∀ (z : NewW wr), z.w.cell? ⟨b, o + k * 3 + 2, none⟩ = some (.int .i64 t.z) := fun z => NewW.cell ((hB.cell (p := ⟨b, _, none⟩) hbb).trans e2) z
      have g3 : ∀ (z : NewW wr), z.w.cell? ⟨b', o' + k * 3, none⟩ = some (.int .i64 t.x) := fun z => NewW.cell ((hB.cell (p := ⟨b', _, none⟩) hbb').trans e0') z
      have g4 : ∀ (z : NewW wr), z.w.cell? ⟨b', o' + k * 3 + 1, none⟩ = some (.int .i64 t.y) := fun z => NewW.cell ((hB.cell (p := ⟨b', _, none⟩) hbb').trans e1') z
      have g5 : ∀ (z : NewW wr), z.w.cell? ⟨b', o' + k * 3 + 2, none⟩ = some (.int .i64 t.z) := fun z => NewW.cell ((hB.cell (p := ⟨b', _, none⟩) hbb').trans e2') z
      clear e0 e1 e2 e0' e1' e2' hx hx'
      have hk0 : (0 : Int) ≤ (k : Int) := by omega
      have hk1 : (k : Int) < (l.length : Int) := by omega
      go_wp2
      refine wp_region_new (by kernel_rfl) (by kernel_rfl) ?_
      repeat (go_big_quiet_step ((go_at_call 28; exact NewW.call (eqAct_same _ _ _ _))))
      refine wpQuiet_nil ?_
      intro w2 hw'
      obtain ⟨hx, hw''⟩ := hw'
      have hb2 := hx.h
      rw [← hw''] at hb2
      clear hw'' hx
      clear g0 g1 g2 g3 g4 g5
      replace hB := hB.trans (Below.mono hb2 hB.size)
      have hz_w2 : wr.heap.size ≤ w2.heap.size := Below.size hb2
      clear hb2
      go_wp2
      go_roundw
      case rel => exact ⟨k + 1, by omega, by go_num, hB⟩
      case measure => simp [intOf]; omega
    · go_wp2
      go_ret
      exact ⟨rfl, hB⟩
set_option maxHeartbeats 400000 in
theorem szActS_ok1 (A : Option Addr) (n c : Nat) (left : Int) (w : World) (h : (n : Int) ≤ left) (h2 : left ≤ 1048576) :
    Calls Tryd.prog 12 #[.slice A n c, .int .i64 left] w fun e w' => e = .returned (.int .i64 (left - n)) ∧ w = w' := by
  go_enter Tryd.func12, Tryd.ntmps12
  go_wp2
  go_ret
  exact ⟨rfl, rfl⟩
theorem szActS_ok (A : Option Addr) (c : Nat) (l : List T3) (left : Int) (w : World) (h : (l.length : Int) ≤ left) (h2 : left ≤ 1048576) :
    Calls Tryd.prog 12 #[.slice A l.length c, .int .i64 left] w fun e w' => e = .returned (.int .i64 (left - l.length)) ∧ Below w.heap.size w w' := post_s (szActS_ok1 _ _ _ _ _ h h2)
set_option maxHeartbeats 400000 in
theorem szActS_big1 (A : Option Addr) (n c : Nat) (left : Int) (w : World) (h : left < n) (h1 : 0 ≤ left) (h2 : n ≤ 9223372036854775807) :
    Calls Tryd.prog 12 #[.slice A n c, .int .i64 left] w fun e w' => e = .returned (.int .i64 (-1)) ∧ w = w' := by
  go_enter Tryd.func12, Tryd.ntmps12
  go_wp2
  go_ret
  exact ⟨rfl, rfl⟩
theorem szActS_big (A : Option Addr) (c : Nat) (l : List T3) (left : Int) (w : World) (h : left < (l.length : Int)) (h1 : 0 ≤ left) (h2 : l.length ≤ 9223372036854775807) :
    Calls Tryd.prog 12 #[.slice A l.length c, .int .i64 left] w fun e w' => e = .returned (.int .i64 (-1)) ∧ Below w.heap.size w w' := post_s (szActS_big1 _ _ _ _ _ h h1 h2)
end Go.Proofs.YtnedbdpcimhfgaaDoor
