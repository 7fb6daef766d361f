/- WaitOf. -/
import Derived.Test.YtljidaniidfdoaaApp
import Derived.Test.YtljidaniidfdoaaQueue
import Derived.Test.YtljidaniidfdoaaQueueI
namespace Go.Proofs.Ytljidaniidfdoaa
open Go.RowKit
theorem infoB : (Try.prog.info? 4).map (fun i => (i.zero, i.size, i.bytes)) = some (some (.bool false), 1, 1) := by kernel_rfl
theorem madeB (n : Nat) : (madeCells #[Value.bool false] n).toList = bools (List.replicate n false) := by
  unfold bools madeCells
  rw [List.map_replicate]
  apply List.ext_getElem (by simp)
  intro i h1 h2
  simp [Nat.mod_one]
def waitGo (times : List Int) : List Int → List Bool → Int → Int → Int
  | [], _, _, n => n
  | i :: rest, seen, now, n => if inB i 0 (times.length - 1) && !(seen.getD i.toNat false) then waitGo times rest (seen.set i.toNat true) (now + times.getD i.toNat 0) (n + now) else -1
theorem waitGo_cons (times : List Int) (i : Int) (rest : List Int) (seen : List Bool) (now n : Int) : waitGo times (i :: rest) seen now n = if inB i 0 (times.length - 1) && !(seen.getD i.toNat false) then waitGo times rest (seen.set i.toNat true) (now + times.getD i.toNat 0) (n + now) else -1 := rfl
def waitOf (times order : List Int) : Int := if queueOk times && decide (order.length = times.length) then waitGo times order (List.replicate times.length false) 0 0 else -1
theorem waitOf_no {times order : List Int} (h : queueOk times = false ∨ order.length ≠ times.length) : waitOf times order = -1 := by
  unfold waitOf; rcases h with h | h <;> simp [h]
theorem waitOf_yes {times order : List Int} (h1 : queueOk times = true) (h2 : order.length = times.length) : waitOf times order = waitGo times order (List.replicate times.length false) 0 0 := by
  unfold waitOf; simp [h1, h2]
theorem allIn_mem {l : List Int} {a b x : Int} {k : Nat} (h : allIn l a b = true) (hx : l[k]? = some x) : a ≤ x ∧ x ≤ b := by
  unfold allIn at h
  rw [List.all_eq_true] at h
  exact inB_iff.1 (h x (List.mem_of_getElem? hx))
theorem queueOk_iff {l : List Int} (h : queueOk l = true) : allIn l 1 100 = true ∧ l.length ≤ 12 := by
  unfold queueOk at h; simpa using h
set_option maxHeartbeats 1600000 in
theorem WaitOf_any (A : Option Addr) (c : Nat) (l : List Int) (B : Option Addr) (d : Nat) (m : List Int) (w : World) (h : RdI w w.heap.size A c l) (h' : RdI w w.heap.size B d m) :
    Calls Try.prog 11 #[.slice A l.length c, .slice B m.length d] w fun e w' => e = .returned (.int .i64 (waitOf l m)) ∧ Below w.heap.size w w' := by
  obtain ⟨hl, hm⟩ := h.le
  obtain ⟨hl', hm'⟩ := h'.le
  cases hq : queueOk l
  · have E := Lib.hid (waitOf_no (order := m) (.inl hq))
    go_enter Try.func11, Try.ntmps11
    go_wp2_with (go_at_call 15; refine (QueueOk_any A c l _ h).mono ?_; rintro e w' ⟨rfl, rfl⟩)
    go_ret
    exact ⟨ret_int E.out.symm, Below.refl _ _⟩
  by_cases hlen : m.length = l.length
  case neg =>
    have E := Lib.hid (waitOf_no (times := l) (order := m) (.inr hlen))
    have hd : ((m.length : Int) != (l.length : Int)) = true := by simpa using fun e => hlen (by omega)
    go_enter Try.func11, Try.ntmps11
    go_wp2_with (go_at_call 15; refine (QueueOk_any A c l _ h).mono ?_; rintro e w' ⟨rfl, rfl⟩)
    go_ret
    exact ⟨ret_int E.out.symm, Below.refl _ _⟩
  have E := Lib.hid (waitOf_yes hq hlen)
  obtain ⟨hall, h12⟩ := queueOk_iff hq
  have HALL := Lib.hid hall; clear hall
  have hd : ((m.length : Int) != (l.length : Int)) = false := by simp [hlen]
  have HLEN := Lib.hid hlen
  have hml : m.length ≤ 12 := by omega
  clear hlen
  obtain ⟨i0, hi, hz0, hz1, hz2⟩ := info_parts infoB
  go_enter Try.func11, Try.ntmps11
  go_wp2_with (first | (go_at_call 15; refine (QueueOk_any A c l _ h).mono ?_; rintro e w' ⟨rfl, rfl⟩) | (at_make; refine wpList_make_full _ rfl _ _ 79 rfl w.heap.size 4 i0 (.bool false) 1 Try.underlying79 hi hz0 hz1 _ _ _ _ l.length rfl rfl rfl rfl (by rw [hz2]; omega) (by unfold maxLen; omega) (Nat.le_refl _) ?_))
  intro w1 hown hg
  have hb1 : Below w.heap.size w w1 := (Below.refl _ _).grown hg (Nat.le_refl _) (by simp)
  have ho : OwnB w1 w.heap.size (some ⟨w.heap.size, 0, none⟩) l.length (List.replicate l.length false) := by
    unfold OwnB; rw [madeB l.length] at hown; simpa using hown
  have H0 := Lib.hid (And.intro hb1 ho)
  clear hown hg hb1 ho
  go_wp2
  go_loopw [6, 7, 25] (fun nn ww i wr => ∃ (k : Nat) (now n : Int) (seen : List Bool), k ≤ m.length ∧ i = .int .i64 k ∧ nn = .int .i64 n ∧ ww = .int .i64 now ∧ seen.length = l.length ∧ OwnB wr w.heap.size (some ⟨w.heap.size, 0, none⟩) l.length seen ∧ Below w.heap.size w wr ∧ waitGo l (m.drop k) seen now n = waitGo l m (List.replicate l.length false) 0 0 ∧ 0 ≤ now ∧ now ≤ 100 * k ∧ 0 ≤ n ∧ n ≤ 1200 * k) (fun _ _ i _ => m.length - (intOf i).toNat)
  case atStart => exact ⟨0, 0, 0, _, Nat.zero_le _, rfl, rfl, rfl, by simp, H0.out.2, H0.out.1, rfl, by omega, by omega, by omega, by omega⟩
  case round =>
    obtain ⟨k, now, n, seen, hk, rfl, rfl, rfl, hsl, ho, hb, hr, w0, w1', n0, n1⟩ := hrel
    have HR := Lib.hid (And.intro hr hsl); clear hr hsl
    by_cases hlt : k < m.length
    · obtain ⟨b', o', x, rfl, hbb', hx, hcell'⟩ := h'.at_ hlt
      have hcx : wr.cell? ⟨b', o' + k, none⟩ = some (.int .i64 x) := (hb.cell (p := ⟨b', o' + k, none⟩) hbb').trans hcell'
      have hs := HR.out.1
      rw [drop_cons hx, waitGo_cons] at hs
      clear hcell' hx
      cases hin : inB x 0 (l.length - 1)
      · rw [hin] at hs
        have HS := Lib.hid (And.intro hs (And.intro ho hb)); clear hs ho hb
        go_wp2_with (go_at_call 44; refine (within_any _ _ _ _).mono ?_; rintro e w' ⟨rfl, rfl⟩)
        go_ret
        exact ⟨ret_int (by rw [E.out, ← HS.out.1]; rfl), HS.out.2.2⟩
      · have hxx := inB_iff.1 hin
        obtain ⟨j, rfl⟩ := Int.eq_ofNat_of_zero_le hxx.1
        have hj : j < l.length := by omega
        obtain ⟨b, o, y, rfl, hbb, hy, hcell⟩ := h.at_ hj
        have hcy : wr.cell? ⟨b, o + j, none⟩ = some (.int .i64 y) := (hb.cell (p := ⟨b, o + j, none⟩) hbb).trans hcell
        obtain ⟨g, hg, hg1, hg2, hfz, ⟨s, hsc, hse⟩, ho', _⟩ := ho.at_ (k := j) (by rw [HR.out.2]; exact hj) true
        obtain rfl : g = w.heap.size := by simpa using hg.symm
        rw [hin] at hs
        simp only [Bool.true_and, Int.toNat_natCast, List.getD_eq_getElem?_getD, hse, hy, Option.getD_some] at hs
        have hyb := allIn_mem HALL.out hy
        have hb' := hb.setCell (p := ⟨w.heap.size, j, none⟩) (Nat.le_refl _) (.bool true)
        have hne : b ≠ w.heap.size := by omega
        cases s
        · have HS := Lib.hid (And.intro hs (And.intro ho' hb')); clear hs ho hb ho' hb' hse hy hcell hg hxx hg1
          go_wp2_with (go_at_call 44; refine (within_any _ _ _ _).mono ?_; rintro e w' ⟨rfl, rfl⟩)
          go_roundw
          case rel => exact ⟨k + 1, now + y, n + now, _, by omega, by go_num, rfl, rfl, by rw [List.length_set]; exact HR.out.2, HS.out.2.1, HS.out.2.2, by simpa using HS.out.1, by omega, by omega, by omega, by omega⟩
          case measure => simp [intOf]; omega
        · have HS := Lib.hid (And.intro hs (And.intro ho hb)); clear hs ho hb ho' hb' hse hy hcell hg hxx hg1
          go_wp2_with (go_at_call 44; refine (within_any _ _ _ _).mono ?_; rintro e w' ⟨rfl, rfl⟩)
          go_ret
          exact ⟨ret_int (by rw [E.out, ← HS.out.1]; rfl), HS.out.2.2⟩
    · have hs := HR.out.1
      rw [drop_end hlt] at hs
      have HS := Lib.hid (And.intro hs hb); clear hs hb ho
      go_wp2
      go_ret
      exact ⟨ret_int (by rw [E.out, ← HS.out.1]; rfl), HS.out.2⟩
end Go.Proofs.Ytljidaniidfdoaa
