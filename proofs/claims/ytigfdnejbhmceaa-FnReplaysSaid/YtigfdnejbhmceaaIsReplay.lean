/- IsReplay of impl and spec. -/
import Derived.Test.YtigfdnejbhmceaaRunActs
import Derived.Test.YtigfdnejbhmceaaRunActsS
namespace Go.Proofs.Ytigfdnejbhmceaa
set_option linter.unusedSimpArgs false
set_option linter.unusedVariables false
open Go.RowKit
set_option maxRecDepth 20000
def isReplay (v : Vg) (l : List T3) (nums : List Int) : Bool := villageOk v && decide (l.length ≤ 40) && decide ((runActs v l).2 = nums)
theorem drop_consI {l : List Int} {k : Nat} {x : Int} (h : l[k]? = some x) : l.drop k = x :: l.drop (k + 1) := by
  obtain ⟨hk, rfl⟩ := List.getElem?_eq_some_iff.1 h
  exact List.drop_eq_getElem_cons hk
set_option maxHeartbeats 800000 in
theorem EqualI_any (A B : Option Addr) (c d : Nat) (l m : List Int) (w : World) (h : RdI w w.heap.size A c l) (h' : RdI w w.heap.size B d m) :
    Calls Try.prog 15 #[.slice A l.length c, .slice B m.length d] w fun e w' => e = .returned (.bool (decide (l = m))) ∧ ∃ n, w' = w.drewN n := by
  obtain ⟨hl, hm⟩ := h.le
  obtain ⟨hl', hm'⟩ := h'.le
  by_cases hlen : l.length = m.length
  · go_enter Try.func15, Try.ntmps15
    go_wp2
    go_loopw [13] (fun i wr => ∃ k : Nat, k ≤ l.length ∧ i = .int .i64 k ∧ decide (l = m) = decide (l.drop k = m.drop k) ∧ ∃ n, wr = w.drewN n) (fun i _ => l.length - (intOf i).toNat)
    case atStart => exact ⟨0, Nat.zero_le _, rfl, rfl, 0, rfl⟩
    case round =>
      obtain ⟨k, hk, rfl, hr, n, rfl⟩ := hrel
      have HR := Lib.hid hr; clear hr
      by_cases hlt : k < l.length
      · obtain ⟨b, o, x, rfl, hbb, hx, hcell⟩ := h.at_ hlt
        obtain ⟨b', o', y, rfl, hbb', hy, hcell'⟩ := h'.at_ (k := k) (by omega)
        have HX := Lib.hid (And.intro hx hy); clear hx hy
        go_wp2
        go_quiet (fail)
        by_cases hxy : x = y
        · subst hxy
          go_wp2
          go_roundw
          case rel => exact ⟨k + 1, by omega, by go_num, by rw [HR.out, drop_consI HX.out.1, drop_consI HX.out.2]; simp, _, rfl⟩
          case measure => simp [intOf]; omega
        · have hd : (x != y) = true := by simpa using hxy
          go_wp2
          go_ret
          exact ⟨by rw [HR.out, drop_consI HX.out.1, drop_consI HX.out.2]; simp [hxy], n + nq, World.drewN_drewN _ _ _⟩
      · go_wp2
        go_ret
        have e1 := HR.out
        rw [List.drop_eq_nil_of_le (by omega), List.drop_eq_nil_of_le (by omega)] at e1
        exact ⟨by rw [e1]; simp, n, rfl⟩
  · have hd : ((l.length : Int) != (m.length : Int)) = true := by simpa using fun e => hlen (by omega)
    go_enter Try.func15, Try.ntmps15
    go_wp2
    go_ret
    have hne : l ≠ m := fun e => hlen (by rw [e])
    exact ⟨by simp [hne], 0, rfl⟩
set_option maxHeartbeats 3200000 in
theorem IsReplay_any (A : Option Addr) (c : Nat) (R : Option Addr) (d : Nat) (v : Vg) (B : Option Addr) (n : Nat) (acts : List T3) (M : Option Addr) (k : Nat) (nums : List Int) (w : World) (h : RdT w w.heap.size A c v.book.evs) (h' : RdT w w.heap.size R d v.rights) (ha : RdT w w.heap.size B n acts) (hm : RdI w w.heap.size M k nums) (hs : v.book.evs.length + v.rights.length ≤ 1048576) :
    Calls Try.prog 7 #[v.val A c R d, .slice B acts.length n, .slice M nums.length k] w fun e w' => e = .returned (.bool (isReplay v acts nums)) ∧ Below w.heap.size w w' := by
  obtain ⟨hbl, hbm⟩ := ha.le
  have hB := Below.refl w.heap.size w
  have h1 := fun (W : World) (hb : Below w.heap.size w W) => VillageOk_any A c R d v W (h.below hb) (h'.below hb) (by omega)
  cases hv : villageOk v
  · have hst : isReplay v acts nums = false := by unfold isReplay; rw [hv]; rfl
    rw [hst]
    rw [hv] at h1
    unfold Vg.val at h1 ⊢
    obtain ⟨⟨room, start, l, lv, ra, dr, lo⟩, rs⟩ := v
    simp only at h h' hs h1 ⊢
    have H1 := Lib.hid h1
    clear h1 hst hv
    go_enter Try.func7, Try.ntmps7
    go_wp2_with fail
    first | refine name_world ?_ | refine name_wp ?_
    intro W1 hW
    replace hB : Below w.heap.size w W1 := by rw [hW]; exact tacT
    have hz_W1 : w.heap.size ≤ W1.heap.size := by rw [hW]; first | (simp; done) | (simp; omega)
    replace kb_p : Blk W1 (w.heap.size) 29 #[.int .i64 room, .int .i64 start, .slice A l.length c, .int .i64 lv, .int .i64 ra, .int .i64 dr, .int .i64 lo, .slice R rs.length d] := by rw [hW]; exact blkT
    have hLW1_p := kb_p.lt
    try clear kc_p kf_p
    clear hW
    refine (H1.out _ hB).mono ?_
    rintro e w1 ⟨rfl, hb⟩
    replace hB := hB.trans (Below.mono hb hB.size)
    have hz_w1 : W1.heap.size ≤ w1.heap.size := Below.size hb
    clear hb
    go_wp2_with fail
    go_ret
    exact ⟨rfl, hB⟩
  by_cases hg : acts.length ≤ 40
  · have hst : isReplay v acts nums = decide ((runActs v acts).2 = nums) := by unfold isReplay; rw [hv, decide_eq_true hg]; rfl
    rw [hst]
    have h2 := fun (W : World) (hb : Below w.heap.size w W) => RunActs_any A c R d v B n acts W (h.below hb) (h'.below hb) (ha.below hb) hs
    obtain ⟨⟨x, ns⟩, hE⟩ : ∃ r, runActs v acts = r := ⟨_, rfl⟩
    rw [hE] at h2 ⊢
    have h3 := fun (W : World) (B' : Option Addr) (n' : Nat) (hb : Below w.heap.size w W) (hr : RdI W W.heap.size B' n' ns) => post_d (EqualI_any B' M n' k ns nums W hr (hm.below hb))
    rw [hv] at h1
    unfold RunRet at h2
    unfold Vg.val at h1 h2 ⊢
    obtain ⟨⟨room, start, l, lv, ra, dr, lo⟩, rs⟩ := v
    obtain ⟨⟨room', start', l', lv', ra', dr', lo'⟩, rs'⟩ := x
    simp only at h h' hs h1 h2 h3 ⊢
    have H1 := Lib.hid h1
    have H2 := Lib.hid h2
    have H3 := Lib.hid h3
    have hg1 : (acts.length : Int) ≤ 40 := by omega
    clear h1 h2 h3 hst hv hE
    go_enter Try.func7, Try.ntmps7
    go_wp2_with fail
    first | refine name_world ?_ | refine name_wp ?_
    intro W1 hW
    replace hB : Below w.heap.size w W1 := by rw [hW]; exact tacT
    have hz_W1 : w.heap.size ≤ W1.heap.size := by rw [hW]; first | (simp; done) | (simp; omega)
    replace kb_p : Blk W1 (w.heap.size) 29 #[.int .i64 room, .int .i64 start, .slice A l.length c, .int .i64 lv, .int .i64 ra, .int .i64 dr, .int .i64 lo, .slice R rs.length d] := by rw [hW]; exact blkT
    have hLW1_p := kb_p.lt
    try clear kc_p kf_p
    clear hW
    refine (H1.out _ hB).mono ?_
    rintro e w1 ⟨rfl, hb⟩
    replace hB := hB.trans (Below.mono hb hB.size)
    have hz_w1 : W1.heap.size ≤ w1.heap.size := Below.size hb
    replace kb_p := Blk.below kb_p hb (by first | exact kb_p.lt | (have := kb_p.lt; omega))
    have kc_p := kb_p.cells
    have kf_p := kb_p.frozens
    have hl_p := kb_p.lt
    have hn_p := Nat.ne_of_lt kb_p.lt
    clear hb
    go_wp2_with fail
    refine (H2.out _ hB).mono ?_
    rintro e w2 ⟨A1, c1, R1, d1, B1, n1, rfl, la, lb, na, nb, -, -, hq1, hq2, -, -, -, hr_n, hb⟩
    replace hB := hB.trans (Below.mono hb hB.size)
    have hz_w2 : w1.heap.size ≤ w2.heap.size := Below.size hb
    clear hb
    go_wp2_with fail
    first | refine name_world ?_ | refine name_wp ?_
    intro W3 hW
    replace hB : Below w.heap.size w W3 := by rw [hW]; exact tacT
    have hz_W3 : w2.heap.size ≤ W3.heap.size := by rw [hW]; first | (simp; done) | (simp; omega)
    replace hr_n : Row2 W3 (na) (nb) 3 1 B1 (ns.length) n1 (ints ns) := by rw [hW]; exact rowT
    clear hW
    refine (H3.out _ _ _ hB hr_n.rd).mono ?_
    rintro e w4 ⟨rfl, hb⟩
    replace hB := hB.trans (Below.mono hb hB.size)
    have hz_w4 : W3.heap.size ≤ w4.heap.size := Below.size hb
    clear hb
    go_wp2_with fail
    go_ret
    exact ⟨rfl, hB⟩
  · have hst : isReplay v acts nums = false := by unfold isReplay; rw [decide_eq_false hg]; simp
    rw [hst]
    rw [hv] at h1
    unfold Vg.val at h1 ⊢
    obtain ⟨⟨room, start, l, lv, ra, dr, lo⟩, rs⟩ := v
    simp only at h h' hs h1 ⊢
    have H1 := Lib.hid h1
    have hg1 : (40 : Int) < (acts.length : Int) := by omega
    clear h1 hst hv
    go_enter Try.func7, Try.ntmps7
    go_wp2_with fail
    first | refine name_world ?_ | refine name_wp ?_
    intro W1 hW
    replace hB : Below w.heap.size w W1 := by rw [hW]; exact tacT
    have hz_W1 : w.heap.size ≤ W1.heap.size := by rw [hW]; first | (simp; done) | (simp; omega)
    replace kb_p : Blk W1 (w.heap.size) 29 #[.int .i64 room, .int .i64 start, .slice A l.length c, .int .i64 lv, .int .i64 ra, .int .i64 dr, .int .i64 lo, .slice R rs.length d] := by rw [hW]; exact blkT
    have hLW1_p := kb_p.lt
    try clear kc_p kf_p
    clear hW
    refine (H1.out _ hB).mono ?_
    rintro e w1 ⟨rfl, hb⟩
    replace hB := hB.trans (Below.mono hb hB.size)
    have hz_w1 : W1.heap.size ≤ w1.heap.size := Below.size hb
    clear hb
    go_wp2_with fail
    go_ret
    exact ⟨rfl, hB⟩
end Go.Proofs.Ytigfdnejbhmceaa
