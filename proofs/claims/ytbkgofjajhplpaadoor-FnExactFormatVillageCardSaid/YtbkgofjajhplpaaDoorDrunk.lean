/- DrunkBy. -/
import Derived.Test.YtbkgofjajhplpaaDoorBookOk
namespace Go.Proofs.YtbkgofjajhplpaaDoor
set_option linter.unusedSimpArgs false
set_option linter.unusedVariables false
open Go.RowKit
def drunkGo (kk : Int) : List T3 → Int → Int
  | [], n => n
  | t :: r, n => drunkGo kk r (if t.x = 2 ∧ t.z = kk then wrap64 (n + t.y) else n)
theorem drunkGo_cons (kk : Int) (t : T3) (r : List T3) (n : Int) : drunkGo kk (t :: r) n = drunkGo kk r (if t.x = 2 ∧ t.z = kk then wrap64 (n + t.y) else n) := rfl
def drunkBy (b : Bk) (kk : Int) : Int := if bookOk b = true then drunkGo kk b.evs 0 else -1
set_option maxHeartbeats 1600000 in
theorem DrunkBy_any (A : Option Addr) (c : Nat) (b : Bk) (kk : Int) (w : World) (h : RdT w w.heap.size A c b.evs) :
    Calls Tryd.prog 79 #[b.val A c, .int .i64 kk] w fun e w' => e = .returned (.int .i64 (drunkBy b kk)) ∧ Below w.heap.size w w' := by
  obtain ⟨hl, hm⟩ := h.le
  have hcall := fun (W : World) (hb : Below w.heap.size w W) => BookOk_any A c b W (h.below hb)
  obtain ⟨R, hR⟩ : ∃ R, R = drunkBy b kk := ⟨_, rfl⟩
  rw [← hR]
  unfold drunkBy at hR
  cases hq : bookOk b
  · rw [hq] at hcall hR
    obtain ⟨room, start, l, lv, ra, dr, lo⟩ := b
    unfold Bk.val at hcall ⊢
    simp only at h hl hcall ⊢
    have HCALL := Lib.hid (And.intro hcall hR); clear hcall hR hq
    go_enter Tryd.func79, Tryd.ntmps79
    go_wp2_with (go_at_call 93; refine (HCALL.out.1 _ (by repeat' (first | (with_reducible exact Below.refl _ _) | (with_reducible assumption) | (with_reducible refine Below.alloc ?_ ?_ _) | (with_reducible refine Below.setCell ?_ ?_ _) | (with_reducible refine Below.drew ?_) | (with_reducible refine below_drewN ?_ _) | (refine Below.trans ?_ (Below.mono (by with_reducible assumption) ?_)) | omega | (simp; done) | (simp; omega)))).mono ?_; rintro e w1 ⟨rfl, hb1⟩; have hz1 := hb1.size; have hz2 : w.heap.size < w1.heap.size := (by simp at hz1; omega))
    go_ret
    exact ⟨ret_int HCALL.out.2.symm, by repeat' (first | (with_reducible exact Below.refl _ _) | (with_reducible assumption) | (with_reducible refine Below.alloc ?_ ?_ _) | (with_reducible refine Below.setCell ?_ ?_ _) | (with_reducible refine Below.drew ?_) | (with_reducible refine below_drewN ?_ _) | (refine Below.trans ?_ (Below.mono (by with_reducible assumption) ?_)) | omega | (simp; done) | (simp; omega))⟩
  rw [hq] at hcall hR
  obtain ⟨room, start, l, lv, ra, dr, lo⟩ := b
  unfold Bk.val at hcall ⊢
  simp only [if_true] at h hl hcall hR ⊢
  have HCALL := Lib.hid (And.intro hcall hR); clear hcall hR hq
  go_enter Tryd.func79, Tryd.ntmps79
  go_wp2_with (go_at_call 93; refine (HCALL.out.1 _ (by repeat' (first | (with_reducible exact Below.refl _ _) | (with_reducible assumption) | (with_reducible refine Below.alloc ?_ ?_ _) | (with_reducible refine Below.setCell ?_ ?_ _) | (with_reducible refine Below.drew ?_) | (with_reducible refine below_drewN ?_ _) | (refine Below.trans ?_ (Below.mono (by with_reducible assumption) ?_)) | omega | (simp; done) | (simp; omega)))).mono ?_; rintro e w1 ⟨rfl, hb1⟩; have hz1 := hb1.size; have hz2 : w.heap.size < w1.heap.size := (by simp at hz1; omega); have hB1 : Below w.heap.size w w1 := (by repeat' (first | (with_reducible exact Below.refl _ _) | (with_reducible assumption) | (with_reducible refine Below.alloc ?_ ?_ _) | (with_reducible refine Below.setCell ?_ ?_ _) | (with_reducible refine Below.drew ?_) | (with_reducible refine below_drewN ?_ _) | (refine Below.trans ?_ (Below.mono (by with_reducible assumption) ?_)) | omega | (simp; done) | (simp; omega))); obtain ⟨hc1, hf1⟩ := bcell hb1; have k2 : w1.cell? ⟨w.heap.size, 2, none⟩ = some (.slice A l.length c) := (by rw [hc1 _ _ (by simp)]; simp [go_sem]); clear hc1 hf1)
  go_loopw [5, 14] (fun n i wr => ∃ (k : Nat) (m : Int), k ≤ l.length ∧ i = .int .i64 k ∧ n = .int .i64 m ∧ drunkGo kk (l.drop k) m = R ∧ Below w.heap.size w wr) (fun _ i _ => l.length - (intOf i).toNat)
  case atStart => exact ⟨0, 0, Nat.zero_le _, rfl, rfl, HCALL.out.2.symm, hB1⟩
  case round =>
    obtain ⟨k, m, hk, rfl, rfl, hr, hB⟩ := hrel
    by_cases hlt : k < l.length
    · obtain ⟨b, o, t, rfl, hbb, hx, e0, e1, e2⟩ := h.at_ hlt
      have f0 : wr.cell? ⟨b, o + k * 3, none⟩ = some (.int .i64 t.x) := (hB.cell (p := ⟨b, _, none⟩) hbb).trans e0
      have f1 : wr.cell? ⟨b, o + k * 3 + 1, none⟩ = some (.int .i64 t.y) := (hB.cell (p := ⟨b, _, none⟩) hbb).trans e1
      have f2 : wr.cell? ⟨b, o + k * 3 + 2, none⟩ = some (.int .i64 t.z) := (hB.cell (p := ⟨b, _, none⟩) hbb).trans e2
      clear e0 e1 e2
      have hwz := hB.size
      have hbr : b < wr.heap.size := by omega
      rw [drop_cons hx, drunkGo_cons] at hr
      by_cases h2 : t.x = 2
      · by_cases h3 : t.z = kk
        · rw [if_pos ⟨h2, h3⟩] at hr
          have HX := Lib.hid (And.intro hr hB); clear hr hB hx
          rw [h2] at f0
          rw [h3] at f2
          go_wp2
          go_roundw
          case rel => exact ⟨k + 1, wrap64 (m + t.y), by omega, by go_num, rfl, HX.out.1, HX.out.2.alloc (by omega) _⟩
          case measure => simp [intOf]; omega
        · rw [if_neg (fun e => h3 e.2)] at hr
          have HX := Lib.hid (And.intro hr hB); clear hr hB hx
          rw [h2] at f0
          go_wp2
          go_roundw
          case rel => exact ⟨k + 1, m, by omega, by go_num, rfl, HX.out.1, HX.out.2.alloc (by omega) _⟩
          case measure => simp [intOf]; omega
      · rw [if_neg (fun e => h2 e.1)] at hr
        have HX := Lib.hid (And.intro hr hB); clear hr hB hx
        go_wp2
        go_roundw
        case rel => exact ⟨k + 1, m, by omega, by go_num, rfl, HX.out.1, HX.out.2.alloc (by omega) _⟩
        case measure => simp [intOf]; omega
    · have e1 : R = m := by rw [← hr, drop_end hlt]; rfl
      go_wp2
      go_ret
      exact ⟨ret_int e1.symm, hB⟩
set_option maxHeartbeats 1600000 in
theorem DrunkByS_any (A : Option Addr) (c : Nat) (b : Bk) (kk : Int) (w : World) (h : RdT w w.heap.size A c b.evs) (hs : b.evs.length ≤ 1048576) :
    Calls Tryd.prog 90 #[b.val A c, .int .i64 kk] w fun e w' => e = .returned (.int .i64 (drunkBy b kk)) ∧ Below w.heap.size w w' := by
  obtain ⟨hl, hm⟩ := h.le
  have hcall := fun (W : World) (hb : Below w.heap.size w W) => BookOkS_any A c b W (h.below hb) hs
  obtain ⟨R, hR⟩ : ∃ R, R = drunkBy b kk := ⟨_, rfl⟩
  rw [← hR]
  unfold drunkBy at hR
  cases hq : bookOk b
  · rw [hq] at hcall hR
    obtain ⟨room, start, l, lv, ra, dr, lo⟩ := b
    unfold Bk.val at hcall ⊢
    simp only at h hl hcall ⊢
    have HCALL := Lib.hid (And.intro hcall hR); clear hcall hR hq
    go_enter Tryd.func90, Tryd.ntmps90
    go_wp2_with (go_at_call 87; refine (HCALL.out.1 _ (by repeat' (first | (with_reducible exact Below.refl _ _) | (with_reducible assumption) | (with_reducible refine Below.alloc ?_ ?_ _) | (with_reducible refine Below.setCell ?_ ?_ _) | (with_reducible refine Below.drew ?_) | (with_reducible refine below_drewN ?_ _) | (refine Below.trans ?_ (Below.mono (by with_reducible assumption) ?_)) | omega | (simp; done) | (simp; omega)))).mono ?_; rintro e w1 ⟨rfl, hb1⟩; have hz1 := hb1.size; have hz2 : w.heap.size < w1.heap.size := (by simp at hz1; omega))
    go_ret
    exact ⟨ret_int HCALL.out.2.symm, by repeat' (first | (with_reducible exact Below.refl _ _) | (with_reducible assumption) | (with_reducible refine Below.alloc ?_ ?_ _) | (with_reducible refine Below.setCell ?_ ?_ _) | (with_reducible refine Below.drew ?_) | (with_reducible refine below_drewN ?_ _) | (refine Below.trans ?_ (Below.mono (by with_reducible assumption) ?_)) | omega | (simp; done) | (simp; omega))⟩
  rw [hq] at hcall hR
  obtain ⟨room, start, l, lv, ra, dr, lo⟩ := b
  unfold Bk.val at hcall ⊢
  simp only [if_true] at h hl hcall hR ⊢
  have HCALL := Lib.hid (And.intro hcall hR); clear hcall hR hq
  go_enter Tryd.func90, Tryd.ntmps90
  go_wp2_with (go_at_call 87; refine (HCALL.out.1 _ (by repeat' (first | (with_reducible exact Below.refl _ _) | (with_reducible assumption) | (with_reducible refine Below.alloc ?_ ?_ _) | (with_reducible refine Below.setCell ?_ ?_ _) | (with_reducible refine Below.drew ?_) | (with_reducible refine below_drewN ?_ _) | (refine Below.trans ?_ (Below.mono (by with_reducible assumption) ?_)) | omega | (simp; done) | (simp; omega)))).mono ?_; rintro e w1 ⟨rfl, hb1⟩; have hz1 := hb1.size; have hz2 : w.heap.size < w1.heap.size := (by simp at hz1; omega); have hB1 : Below w.heap.size w w1 := (by repeat' (first | (with_reducible exact Below.refl _ _) | (with_reducible assumption) | (with_reducible refine Below.alloc ?_ ?_ _) | (with_reducible refine Below.setCell ?_ ?_ _) | (with_reducible refine Below.drew ?_) | (with_reducible refine below_drewN ?_ _) | (refine Below.trans ?_ (Below.mono (by with_reducible assumption) ?_)) | omega | (simp; done) | (simp; omega))); obtain ⟨hc1, hf1⟩ := bcell hb1; have k2 : w1.cell? ⟨w.heap.size, 2, none⟩ = some (.slice A l.length c) := (by rw [hc1 _ _ (by simp)]; simp [go_sem]); clear hc1 hf1)
  go_loopw [5, 6] (fun n i wr => ∃ (k : Nat) (m : Int), k ≤ l.length ∧ i = .int .i64 k ∧ n = .int .i64 m ∧ drunkGo kk (l.drop k) m = R ∧ w1 = wr) (fun _ i _ => l.length - (intOf i).toNat)
  case atStart => exact ⟨0, 0, Nat.zero_le _, rfl, rfl, HCALL.out.2.symm, rfl⟩
  case round =>
    obtain ⟨k, m, hk, rfl, rfl, hr, rfl⟩ := hrel
    by_cases hlt : k < l.length
    · obtain ⟨b, o, t, rfl, hbb, hx, e0, e1, e2⟩ := h.at_ hlt
      have f0 : w1.cell? ⟨b, o + k * 3, none⟩ = some (.int .i64 t.x) := (hB1.cell (p := ⟨b, _, none⟩) hbb).trans e0
      have f1 : w1.cell? ⟨b, o + k * 3 + 1, none⟩ = some (.int .i64 t.y) := (hB1.cell (p := ⟨b, _, none⟩) hbb).trans e1
      have f2 : w1.cell? ⟨b, o + k * 3 + 2, none⟩ = some (.int .i64 t.z) := (hB1.cell (p := ⟨b, _, none⟩) hbb).trans e2
      clear e0 e1 e2
      have hbr : b < w1.heap.size := by omega
      rw [drop_cons hx, drunkGo_cons] at hr
      by_cases h2 : t.x = 2
      · by_cases h3 : t.z = kk
        · rw [if_pos ⟨h2, h3⟩] at hr
          have HX := Lib.hid hr; clear hr hx
          rw [h2] at f0
          rw [h3] at f2
          go_wp2
          go_roundw
          case rel => exact ⟨k + 1, wrap64 (m + t.y), by omega, by go_num, rfl, HX.out, trivial⟩
          case measure => simp [intOf]; omega
        · rw [if_neg (fun e => h3 e.2)] at hr
          have HX := Lib.hid hr; clear hr hx
          rw [h2] at f0
          go_wp2
          go_roundw
          case rel => exact ⟨k + 1, m, by omega, by go_num, rfl, HX.out, trivial⟩
          case measure => simp [intOf]; omega
      · rw [if_neg (fun e => h2 e.1)] at hr
        have HX := Lib.hid hr; clear hr hx
        go_wp2
        go_roundw
        case rel => exact ⟨k + 1, m, by omega, by go_num, rfl, HX.out, trivial⟩
        case measure => simp [intOf]; omega
    · have e1 : R = m := by rw [← hr, drop_end hlt]; rfl
      go_wp2
      go_ret
      exact ⟨ret_int e1.symm, hB1⟩
end Go.Proofs.YtbkgofjajhplpaaDoor
