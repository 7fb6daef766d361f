/- The law side's own helpers on slices of ints: copy, compare, mark, look. -/
import Derived.Test.YtljidaniidfdoaaApp
import Derived.Test.YtljidaniidfdoaaProg
namespace Go.Proofs.Ytljidaniidfdoaa
open Go.RowKit
theorem madeI (n : Nat) : (madeCells #[Value.int .i64 0] n).toList = ints (List.replicate n 0) := by
  unfold ints madeCells
  rw [List.map_replicate]
  apply List.ext_getElem (by simp)
  intro i h1 h2
  simp [Nat.mod_one]
def tk (l : List Int) (k : Nat) : List Int := l.take k ++ List.replicate (l.length - k) 0
theorem tk_len (l : List Int) (k : Nat) (h : k ≤ l.length) : (tk l k).length = l.length := by
  unfold tk; rw [List.length_append, List.length_take, List.length_replicate, Nat.min_eq_left h]; omega
theorem tk_succ {l : List Int} {k : Nat} {x : Int} (h : l[k]? = some x) : (tk l k).set k x = tk l (k + 1) := by
  obtain ⟨hk, rfl⟩ := List.getElem?_eq_some_iff.1 h
  unfold tk
  have e : l.length - k = (l.length - (k + 1)) + 1 := by omega
  have e2 : (l.take k).length = k := by rw [List.length_take]; omega
  rw [e, List.replicate_succ, List.set_append_right _ _ (by omega), e2, Nat.sub_self, List.set_cons_zero, List.take_add_one, h, List.append_assoc]
  rfl
theorem tk_all (l : List Int) : tk l l.length = l := by simp [tk]
set_option maxHeartbeats 400000 in
theorem toIntS_any (A : Option Addr) (c : Nat) (l : List Int) (w : World) (h : RdI w w.heap.size A c l) (hs : l.length ≤ 1048576) :
    Calls Try.prog 25 #[.slice A l.length c] w fun e w' => ∃ A' c', e = .returned (.slice A' l.length c') ∧ OwnI w' w.heap.size A' c' l ∧ Below w.heap.size w w' := by
  obtain ⟨hl, hm⟩ := h.le
  obtain ⟨i0, hi, hz0, hz1, hz2⟩ := info_parts infoI
  go_enter Try.func25, Try.ntmps25
  go_wp2_with (at_make; refine wpList_make_full _ rfl _ _ 24 rfl w.heap.size 3 i0 (.int .i64 0) 1 Try.underlying24 hi hz0 hz1 _ _ _ _ l.length rfl rfl rfl rfl (by rw [hz2]; omega) (by unfold maxLen; omega) (Nat.le_refl _) ?_)
  intro w1 hown hg
  have hb1 : Below w.heap.size w w1 := (Below.refl _ _).grown hg (Nat.le_refl _) (by simp)
  have ho : OwnI w1 w.heap.size (some ⟨w.heap.size, 0, none⟩) l.length (tk l 0) := by
    unfold OwnI; rw [tk_len l 0 (by omega)]; rw [madeI l.length] at hown; simpa [tk] using hown
  have H0 := Lib.hid (And.intro hb1 ho)
  clear hown hg hb1 ho
  go_wp2
  go_loopw [4] (fun i wr => ∃ k : Nat, k ≤ l.length ∧ i = .int .i64 k ∧ OwnI wr w.heap.size (some ⟨w.heap.size, 0, none⟩) l.length (tk l k) ∧ Below w.heap.size w wr) (fun i _ => l.length - (intOf i).toNat)
  case atStart => exact ⟨0, Nat.zero_le _, rfl, H0.out.2, H0.out.1⟩
  case round =>
    obtain ⟨k, hk, rfl, ho, hb⟩ := hrel
    by_cases hlt : k < l.length
    · obtain ⟨b, o, x, rfl, hbb, hx, hcell⟩ := h.at_ hlt
      have hcx : wr.cell? ⟨b, o + k, none⟩ = some (.int .i64 x) := (hb.cell (p := ⟨b, o + k, none⟩) hbb).trans hcell
      obtain ⟨g, hg, hg1, hg2, hfz, ⟨y, hy, _⟩, ho', hgr⟩ := ho.set_ (k := k) (by rw [tk_len l k hk]; exact hlt) x
      obtain rfl : g = w.heap.size := by simpa using hg.symm
      have hb' := hb.setCell (p := ⟨w.heap.size, k, none⟩) (Nat.le_refl _) (.int .i64 x)
      rw [tk_succ hx] at ho'
      have H1 := Lib.hid (And.intro hb' ho')
      clear ho hb hx hgr hg ho' hb' hcell hg1
      go_wp2
      go_roundw
      case rel => exact ⟨k + 1, by omega, by go_num, H1.out.2, H1.out.1⟩
      case measure => simp [intOf]; omega
    · obtain rfl : k = l.length := by omega
      rw [tk_all] at ho
      have H1 := Lib.hid (And.intro hb ho)
      clear ho hb
      go_wp2
      go_ret
      exact ⟨_, _, rfl, H1.out.2, H1.out.1⟩
set_option maxHeartbeats 400000 in
theorem eqIntS_any (A B : Option Addr) (c d : Nat) (l m : List Int) (w : World) (h : RdI w w.heap.size A c l) (h' : RdI w w.heap.size B d m) :
    Calls Try.prog 27 #[.slice A l.length c, .slice B m.length d] w fun e w' => e = .returned (.bool (decide (l = m))) ∧ ∃ n, w' = w.drewN n := by
  obtain ⟨hl, hm⟩ := h.le
  obtain ⟨hl', hm'⟩ := h'.le
  by_cases hlen : l.length = m.length
  · go_enter Try.func27, Try.ntmps27
    go_wp2
    go_loopw [5] (fun i wr => ∃ k : Nat, k ≤ l.length ∧ i = .int .i64 k ∧ decide (l = m) = decide (l.drop k = m.drop k) ∧ ∃ n, wr = w.drewN n) (fun i _ => l.length - (intOf i).toNat)
    case atStart => exact ⟨0, Nat.zero_le _, rfl, rfl, 0, rfl⟩
    case round =>
      obtain ⟨k, hk, rfl, hr, n, rfl⟩ := hrel
      have HR := Lib.hid hr; clear hr
      by_cases hlt : k < l.length
      · obtain ⟨b, o, x, rfl, hbb, hx, hcell⟩ := h.at_ hlt
        obtain ⟨b', o', y, rfl, hbb', hy, hcell'⟩ := h'.at_ (k := k) (by omega)
        have HX := Lib.hid (And.intro hx hy); clear hx hy
        go_wp2
        go_quiet (fail)
        by_cases hxy : x = y
        · subst hxy
          go_wp2
          go_roundw
          case rel => exact ⟨k + 1, by omega, by go_num, by rw [HR.out, drop_cons HX.out.1, drop_cons HX.out.2]; simp, _, rfl⟩
          case measure => simp [intOf]; omega
        · have hd : (x != y) = true := by simpa using hxy
          go_wp2
          go_ret
          exact ⟨by rw [HR.out, drop_cons HX.out.1, drop_cons HX.out.2]; simp [hxy], n + nq, World.drewN_drewN _ _ _⟩
      · go_wp2
        go_ret
        have e1 := HR.out
        rw [drop_end hlt, drop_end (by omega)] at e1
        exact ⟨by rw [e1]; simp, n, rfl⟩
  · have hd : ((l.length : Int) != (m.length : Int)) = true := by simpa using fun e => hlen (by omega)
    go_enter Try.func27, Try.ntmps27
    go_wp2
    go_ret
    have hne : l ≠ m := fun e => hlen (by rw [e])
    exact ⟨by simp [hne], 0, rfl⟩
theorem eqIntS_same (A : Option Addr) (c : Nat) (B : Option Addr) (d : Nat) (l : List Int) (w : World) (h : RdI w w.heap.size A c l) (h' : RdI w w.heap.size B d l) :
    Calls Try.prog 27 #[.slice A l.length c, .slice B l.length d] w fun e w' => e = .returned (.bool true) ∧ Below w.heap.size w w' := by
  have := post_d (eqIntS_any A B c d l l w h h')
  rwa [decide_eq_true (rfl : l = l)] at this
def marks (k n : Nat) : List Int := (List.range' k n).map Int.ofNat
theorem marks_len (k n : Nat) : (marks k n).length = n := by simp [marks]
theorem marks_succ (k n : Nat) : marks k (n + 1) = marks k n ++ [((k + n : Nat) : Int)] := by
  unfold marks; rw [List.range'_concat]; simp
theorem marks_cons (k n : Nat) : marks k (n + 1) = (k : Int) :: marks (k + 1) n := by
  unfold marks; rw [List.range'_succ]; rfl
def mk (l : List Int) (k i : Nat) : List Int := marks k i ++ l.drop i
theorem mk_len (l : List Int) (k i : Nat) (h : i ≤ l.length) : (mk l k i).length = l.length := by simp [mk, marks_len]; omega
theorem mk_zero (l : List Int) (k : Nat) : mk l k 0 = l := rfl
theorem mk_all (l : List Int) (k : Nat) : mk l k l.length = marks k l.length := by simp [mk]
theorem mk_succ (l : List Int) (k i : Nat) (h : i < l.length) : (mk l k i).set i ((k + i : Nat) : Int) = mk l k (i + 1) := by
  unfold mk
  rw [List.set_append_right _ _ (by rw [marks_len]; omega), marks_len, Nat.sub_self, List.drop_eq_getElem_cons h, List.set_cons_zero, marks_succ, List.append_assoc]
  rfl
set_option maxHeartbeats 400000 in
/-- mark: k, k+1, .. are stored into an owned row. -/
theorem markIntS_any (A : Option Addr) (c base : Nat) (l : List Int) (k : Nat) (w : World) (h : OwnI w base A c l) (hs : l.length + k ≤ 1048576 * 64) :
    Calls Try.prog 28 #[.slice A l.length c, .int .i64 k] w fun e w' => e = .returned (.int .i64 ((k + l.length : Nat) : Int)) ∧ OwnI w' base A c (marks k l.length) ∧ w.grownBy w' (Value.slice A l.length c).ownBlock := by
  obtain ⟨hl, hm⟩ := h.le
  go_enter Try.func28, Try.ntmps28
  go_wp2
  go_loopw [1, 5] (fun kk i wr => ∃ j : Nat, j ≤ l.length ∧ i = .int .i64 j ∧ kk = .int .i64 ((k + j : Nat) : Int) ∧ OwnI wr base A c (mk l k j) ∧ w.grownBy wr (Value.slice A l.length c).ownBlock) (fun _ i _ => l.length - (intOf i).toNat)
  case atStart => exact ⟨0, Nat.zero_le _, rfl, rfl, h, World.grownBy.refl _ _⟩
  case round =>
    obtain ⟨j, hj, rfl, rfl, ho, hgr⟩ := hrel
    by_cases hlt : j < l.length
    · obtain ⟨g, hg, hg1, hg2, hfz, ⟨y, hy, _⟩, ho', hgr'⟩ := ho.set_ (k := j) (by rw [mk_len l k j hj]; exact hlt) ((k + j : Nat) : Int)
      subst hg
      rw [mk_succ l k j hlt] at ho'
      have H1 := Lib.hid (And.intro (grownBy_trans hgr hgr') ho')
      clear ho hgr hgr' ho'
      go_wp2
      go_roundw
      case rel => exact ⟨j + 1, by omega, by go_num, by go_num, H1.out.2, H1.out.1⟩
      case measure => simp [intOf]; omega
    · obtain rfl : j = l.length := by omega
      rw [mk_all] at ho
      have H1 := Lib.hid (And.intro hgr ho)
      clear ho hgr
      go_wp2
      go_ret
      exact ⟨rfl, H1.out.2, H1.out.1⟩
theorem markIntS_2 (A : Option Addr) (c lo hi : Nat) (l : List Int) (k : Nat) (kz : Int) (hk : kz = k) (w : World) (h : Row2 w lo hi 3 1 A l.length c (ints l)) (hs : l.length + k ≤ 1048576 * 64) :
    Calls Try.prog 28 #[.slice A l.length c, .int .i64 kz] w fun e w' => e = .returned (.int .i64 (kz + l.length)) ∧ Row2 w' lo hi 3 1 A l.length c (ints (marks k l.length)) ∧ Chg lo hi w w' := by
  subst hk
  exact (markIntS_any A c lo l k w h.1 hs).mono fun e w' ⟨h1, h2, h3⟩ => ⟨by rw [h1]; simp, ⟨by unfold OwnI at h2; rw [marks_len] at h2; exact h2, h.2⟩, h.wrote h3⟩
end Go.Proofs.Ytljidaniidfdoaa
