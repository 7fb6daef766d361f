/- The draws' cursor: whatever the code, a number of the range comes out. -/
import Derived.Test.YtpmmjhpmheooeaaDoorKa
import Derived.IntWalk
import Derived.Deep.RegionHeld3
namespace Go.Proofs.YtpmmjhpmheooeaaDoor
set_option linter.unusedSimpArgs false
set_option linter.unusedVariables false
open Go.RowKit
set_option maxRecDepth 20000
theorem i64_and255 (n : Int) : bits .and .i64 n 255 = n % 256 := by
  have h127 : (BitVec.ofInt 64 255).toNat = 2 ^ 8 - 1 := by decide
  have key : (BitVec.ofInt 64 n &&& BitVec.ofInt 64 255).toNat = (n % ((2 ^ 64 : Nat) : Int)).toNat % 2 ^ 8 := by
    rw [BitVec.toNat_and, BitVec.toNat_ofInt, h127, Nat.and_two_pow_sub_one_eq_mod]
  show IntKind.i64.wrap ((BitVec.ofInt 64 n &&& BitVec.ofInt 64 255).toNat : Nat) = n % 256
  rw [key, IntKind.wrap_i64]
  omega
def bts (l : List Int) : List Value := l.map (Value.int .u8)
theorem bts_len (l : List Int) : (bts l).length = l.length := by simp [bts]
/-- A slice of bytes that reads as l. -/
def RdY (w : World) (B : Nat) (A : Option Addr) (c : Nat) (l : List Int) : Prop := Rd w B 1 A l.length c (bts l) ∧ ∀ x ∈ l, 0 ≤ x ∧ x ≤ 255
theorem RdY.le {w : World} {B c : Nat} {A : Option Addr} {l : List Int} (h : RdY w B A c l) : l.length ≤ c ∧ c ≤ 9223372036854775807 := ⟨h.1.2.1, h.1.2.2.1⟩
theorem RdY.at_ {w : World} {B c : Nat} {A : Option Addr} {l : List Int} (h : RdY w B A c l) {k : Nat} (hk : k < l.length) :
    ∃ b o x, A = some ⟨b, o, none⟩ ∧ b < B ∧ l[k]? = some x ∧ w.cell? ⟨b, o + k, none⟩ = some (.int .u8 x) ∧ 0 ≤ x ∧ x ≤ 255 := by
  obtain ⟨⟨_, _, _, h4⟩, h5⟩ := h
  obtain ⟨b, o, e, hb, hc⟩ := h4 (by omega)
  have hx : l[k]? = some l[k] := List.getElem?_eq_getElem hk
  have hr := h5 _ (List.getElem_mem hk)
  exact ⟨b, o, l[k], e, hb, hx, hc k _ (by unfold bts; rw [List.getElem?_map, hx]; rfl), hr.1, hr.2⟩
theorem RdY.keep {w w' : World} {B c : Nat} {A : Option Addr} {l : List Int} (h : RdY w B A c l) (hk : ∀ p : Addr, p.block < B → w'.cell? p = w.cell? p) : RdY w' B A c l := ⟨Rd.keep h.1 hk, h.2⟩
theorem RdY.below {w w' : World} {c : Nat} {A : Option Addr} {l : List Int} (h : RdY w w.heap.size A c l) (hb : Below w.heap.size w w') : RdY w' w'.heap.size A c l := ⟨Rd.below' h.1 hb, h.2⟩
/-- Block p holds a cursor. -/
def Cur (w : World) (p : Nat) : Prop := ∃ (A : Option Addr) (c : Nat) (l : List Int) (i : Nat) (h : Int), Blk w p 97 #[.slice A l.length c, .int .i64 i, .int .i64 h] ∧ i ≤ l.length ∧ RdY w p A c l
theorem Cur.lt {w : World} {p : Nat} (h : Cur w p) : p < w.heap.size := by obtain ⟨_, _, _, _, _, hb, _⟩ := h; exact hb.lt
theorem Cur.below {w w' : World} {p B : Nat} (h : Cur w p) (hb : Below B w w') (hp : p < B) : Cur w' p := by
  obtain ⟨A, c, l, i, x, h1, h2, h3⟩ := h
  exact ⟨A, c, l, i, x, h1.below hb hp, h2, h3.keep fun q hq => hb.cell (by omega)⟩
theorem Cur.other {w w' : World} {p : Nat} {row : Option Nat} (h : Cur w p) (hg : w.grownBy w' row) (hr : ∀ k, row = some k → p < k) : Cur w' p := by
  have hl := h.lt
  obtain ⟨A, c, l, i, x, h1, h2, h3⟩ := h
  refine ⟨A, c, l, i, x, h1.grown hg (fun e => by have := hr p e.symm; omega), h2, h3.keep fun q hq => World.cell?_of_block (hg.block _ (by omega) (fun e => by have := hr _ e.symm; omega))⟩
theorem Cur.drewN {w : World} {p : Nat} (h : Cur w p) (n : Nat) : Cur (w.drewN n) p := h
theorem Blk.c3 {w : World} {g : Nat} {t : TypeId} {x y z : Value} (h : Blk w g t #[x, y, z]) (u : Value) : Blk (w.setCell ⟨g, 2, none⟩ u) g t #[x, y, u] := by simpa using h.set_ 2 u
theorem Blk.c2 {w : World} {g : Nat} {t : TypeId} {x y z : Value} (h : Blk w g t #[x, y, z]) (u : Value) : Blk (w.setCell ⟨g, 1, none⟩ u) g t #[x, u, z] := by simpa using h.set_ 1 u
theorem grown_set {w w' : World} {g : Nat} (h : w.grownBy w' (some g)) (o : Nat) (u : Value) : w.grownBy (w'.setCell ⟨g, o, none⟩ u) (some g) :=
  grownBy_trans h ⟨rfl, rfl, rfl, by simp, fun k hk hn => Below.heap_setCell w' _ u k (fun e => hn (by rw [e]))⟩
set_option maxHeartbeats 1600000 in
theorem l01Byte_any (p : Nat) (w : World) (h : Cur w p) :
    Calls Tryd.prog 79 #[.pointer (some ⟨p, 0, none⟩)] w fun e w' => ∃ x, e = .returned (.int .i64 x) ∧ 0 ≤ x ∧ x ≤ 255 ∧ Cur w' p ∧ w.grownBy w' (some p) := by
  have hpl := h.lt
  obtain ⟨A, c, l, i, hh, hk, hil, hr⟩ := h
  obtain ⟨hl, hm⟩ := hr.le
  have kc := hk.cells
  have kf := hk.frozens
  go_enter Tryd.func79, Tryd.ntmps79
  go_wp2_with fail
  first | refine name_world ?_ | refine name_wp ?_
  intro W1 hW1
  obtain ⟨h2, hh2⟩ : ∃ h2 : Int, Value.int .i64 h2 = .int .i64 (wrap64 (wrap64 (hh * 6364136223846793005) + 1442695040888963407)) := ⟨_, rfl⟩
  rw [← hh2] at hW1
  have kb1 : Blk W1 p 97 #[.slice A l.length c, .int .i64 i, .int .i64 h2] := by rw [hW1]; exact hk.c3 _
  have hg1 : w.grownBy W1 (some p) := by rw [hW1]; exact grown_set (World.grownBy.refl _ _) _ _
  have hy1 : RdY W1 p A c l := hr.keep fun q hq => World.cell?_of_block (hg1.block _ (by omega) (fun e => by have := Option.some.inj e; omega))
  clear hW1 kc kf hk hh2
  have kc := kb1.cells
  have kf := kb1.frozens
  have KB := Lib.hid (And.intro kb1 hg1)
  clear kb1 hg1
  have i0 : (0 : Int) ≤ (i : Int) := by omega
  by_cases hlt : i < l.length
  · obtain ⟨b, o, y, rfl, hb, hy, hcy, y0, y1⟩ := hy1.at_ hlt
    have i1 : (i : Int) < (l.length : Int) := by omega
    have hyw : IntKind.i64.wrap y = y := IntWalk.i64_in _ (by omega)
    have hne : b ≠ p := by omega
    have kb2 := KB.out.1.c2 (.int .i64 ((i : Int) + 1))
    have hg2 := grown_set KB.out.2 1 (.int .i64 ((i : Int) + 1))
    have hy2 : RdY (W1.setCell ⟨p, 1, none⟩ (.int .i64 ((i : Int) + 1))) p (some ⟨b, o, none⟩) c l := hy1.keep fun q hq => World.cell?_of_block (Below.heap_setCell W1 _ _ q.block (fun e => by simp at e; omega))
    have H2 := Lib.hid (And.intro kb2 (And.intro hg2 hy2))
    clear kb2 hg2 hy2 hy hr
    go_wp2_with fail
    go_quiet (fail)
    go_wp2_with fail
    go_quiet (fail)
    go_wp2_with fail
    go_quiet (fail)
    go_wp2_with fail
    go_ret
    refine ⟨_, rfl, ?_, ?_, ⟨some ⟨b, o, none⟩, c, l, i + 1, h2, H2.out.1, hlt, H2.out.2.2⟩, ⟨H2.out.2.1.os, H2.out.2.1.tape, H2.out.2.1.output, H2.out.2.1.size, H2.out.2.1.block⟩⟩
    · rw [i64_and255]; omega
    · rw [i64_and255]; omega
  · have i1 : ¬ (i : Int) < (l.length : Int) := by omega
    go_wp2_with fail
    go_quiet (fail)
    go_wp2_with fail
    go_quiet (fail)
    go_wp2_with fail
    go_ret
    refine ⟨_, rfl, ?_, ?_, ⟨A, c, l, i, h2, KB.out.1, hil, hy1⟩, ⟨KB.out.2.os, KB.out.2.tape, KB.out.2.output, KB.out.2.size, KB.out.2.block⟩⟩
    · rw [i64_and255]; omega
    · rw [i64_and255]; omega
set_option maxHeartbeats 1600000 in
theorem l01New_any (A : Option Addr) (c : Nat) (l : List Int) (w : World) (h : RdY w w.heap.size A c l) (hs : l.length ≤ 1048576) :
    Calls Tryd.prog 31 #[.slice A l.length c] w fun e w' => ∃ p, e = .returned (.pointer (some ⟨p, 0, none⟩)) ∧ w.heap.size ≤ p ∧ Cur w' p ∧ Below w.heap.size w w' := by
  obtain ⟨hl, hm⟩ := h.le
  go_enter Tryd.func31, Tryd.ntmps31
  go_wp2_with fail
  go_loop [3, 4] (fun hh i => ∃ (k : Nat) (x : Int), k ≤ l.length ∧ k ≤ 4000 ∧ i = .int .i64 k ∧ hh = .int .i64 x) (fun _ i => l.length - (intOf i).toNat)
  case atStart => exact ⟨0, _, Nat.zero_le _, by omega, rfl, rfl⟩
  case round =>
    obtain ⟨k, x, hk, hk4, rfl, rfl⟩ := hrel
    by_cases hlt : k < l.length
    · by_cases h4 : k < 4000
      · obtain ⟨b, o, y, rfl, hb, hy, hcy, y0, y1⟩ := h.at_ hlt
        have hki : (k : Int) < (l.length : Int) := by omega
        have hk4i : (k : Int) < 4000 := by omega
        go_wp2_with fail
        go_round
        case rel => exact ⟨k + 1, _, by omega, by omega, by go_num, rfl⟩
        case measure => simp [intOf]; omega
      · have hki : (k : Int) < (l.length : Int) := by omega
        have hk4i : ¬ (k : Int) < 4000 := by omega
        go_wp2_with fail
        go_ret
        exact ⟨w.heap.size, rfl, Nat.le_refl _, ⟨A, c, l, 0, _, Blk.new _ _ _, Nat.zero_le _, h.keep fun q hq => (Below.alloc (Below.refl w.heap.size w) (Nat.le_refl _) _).cell hq⟩, by exact tacT⟩
    · have hki : ¬ (k : Int) < (l.length : Int) := by omega
      go_wp2_with fail
      go_ret
      exact ⟨w.heap.size, rfl, Nat.le_refl _, ⟨A, c, l, 0, _, Blk.new _ _ _, Nat.zero_le _, h.keep fun q hq => (Below.alloc (Below.refl w.heap.size w) (Nat.le_refl _) _).cell hq⟩, by exact tacT⟩
/-- What a draw leaves: the cursor, and nothing else turned. -/
def Drew (p : Nat) (w w' : World) : Prop := Cur w' p ∧ w.grownBy w' (some p)
theorem Drew.trans {p : Nat} {a b c : World} (h : Drew p a b) (k : Drew p b c) : Drew p a c := ⟨k.1, grownBy_trans h.2 k.2⟩
theorem Drew.size {p : Nat} {a b : World} (h : Drew p a b) : a.heap.size ≤ b.heap.size := h.2.size
theorem byteD (p : Nat) (w : World) (h : Cur w p) : Calls Tryd.prog 79 #[.pointer (some ⟨p, 0, none⟩)] w fun e w' => ∃ x, e = .returned (.int .i64 x) ∧ 0 ≤ x ∧ x ≤ 255 ∧ Drew p w w' :=
  (l01Byte_any p w h).mono fun _ _ ⟨x, h1, h2, h3, h4, h5⟩ => ⟨x, h1, h2, h3, h4, h5⟩
set_option maxHeartbeats 1600000 in
theorem l01Below_any (p : Nat) (n : Int) (w : World) (h : Cur w p) (hn : n ≤ 1000000000) :
    Calls Tryd.prog 61 #[.pointer (some ⟨p, 0, none⟩), .int .i64 n] w fun e w' => ∃ x, e = .returned (.int .i64 x) ∧ 0 ≤ x ∧ (0 < n → x < n) ∧ (n ≤ 0 → x = 0) ∧ Drew p w w' := by
  by_cases h0 : n ≤ 0
  · go_enter Tryd.func61, Tryd.ntmps61
    go_wp2_with fail
    go_ret
    exact ⟨0, rfl, by omega, by omega, fun _ => rfl, h, World.grownBy.refl _ _⟩
  by_cases h1 : n ≤ 256
  · go_enter Tryd.func61, Tryd.ntmps61
    go_wp2_with fail
    refine (byteD p w h).mono ?_
    rintro e w1 ⟨x, rfl, x0, x1, hd⟩
    have hD := Lib.hid hd
    clear hd
    have ht : x.tmod n = x % n := Int.tmod_eq_emod_of_nonneg x0
    have hne : n ≠ 0 := by omega
    go_wp2_with fail
    go_ret
    have r1 := Int.emod_nonneg x hne
    have r2 := Int.emod_lt_of_pos x (show 0 < n by omega)
    exact ⟨_, rfl, by first | exact r1 | (rw [ht]; exact r1), fun _ => by first | exact r2 | (rw [ht]; exact r2), fun h => by omega, hD.out⟩
  · go_enter Tryd.func61, Tryd.ntmps61
    go_wp2_with fail
    refine (byteD p w h).mono ?_
    rintro e w1 ⟨x1, rfl, a1, b1, hd1⟩
    have hD1 := Lib.hid hd1
    clear hd1
    go_wp2_with fail
    refine (byteD p w1 hD1.out.1).mono ?_
    rintro e w2 ⟨x2, rfl, a2, b2, hd2⟩
    have hD2 := Lib.hid (hD1.out.trans hd2)
    clear hd2
    go_wp2_with fail
    refine (byteD p w2 hD2.out.1).mono ?_
    rintro e w3 ⟨x3, rfl, a3, b3, hd3⟩
    have hD3 := Lib.hid (hD2.out.trans hd3)
    clear hd3
    go_wp2_with fail
    refine (byteD p w3 hD3.out.1).mono ?_
    rintro e w4 ⟨x4, rfl, a4, b4, hd4⟩
    have hD4 := Lib.hid (hD3.out.trans hd4)
    clear hd4
    obtain ⟨s, hs⟩ : ∃ s, s = x1 * 16777216 + x2 * 65536 + x3 * 256 + x4 := ⟨_, rfl⟩
    have s0 : 0 ≤ s := by omega
    have ht : s.tmod n = s % n := Int.tmod_eq_emod_of_nonneg s0
    have hne : n ≠ 0 := by omega
    go_wp2_with fail
    go_ret
    have r1 := Int.emod_nonneg s hne
    have r2 := Int.emod_lt_of_pos s (show 0 < n by omega)
    rw [← hs]
    exact ⟨_, rfl, by first | exact r1 | (rw [ht]; exact r1), fun _ => by first | exact r2 | (rw [ht]; exact r2), fun h => by omega, hD4.out⟩
theorem l01Once_any (p : Nat) (n : Int) (w : World) (h : Cur w p) (hn : n ≤ 1000000000) :
    Calls Tryd.prog 58 #[.pointer (some ⟨p, 0, none⟩), .int .i64 n] w fun e w' => ∃ b, e = .returned (.bool b) ∧ Drew p w w' := by
  go_enter Tryd.func58, Tryd.ntmps58
  go_wp2_with fail
  refine (l01Below_any p n w h hn).mono ?_
  rintro e w1 ⟨x, rfl, x0, _, _, hd⟩
  have hD := Lib.hid hd
  clear hd
  go_wp2_with fail
  go_ret
  exact ⟨_, rfl, hD.out⟩
theorem big_any (A : Option Addr) (n c : Nat) (w : World) (hn : n ≤ 9223372036854775807) :
    Calls Tryd.prog 10 #[.slice A n c] w fun e w' => e = .returned (.bool (decide ((1048576 : Int) < n))) ∧ w = w' := by
  go_enter Tryd.func10, Tryd.ntmps10
  go_wp2_with fail
  go_ret
  exact ⟨rfl, rfl⟩
end Go.Proofs.YtpmmjhpmheooeaaDoor
