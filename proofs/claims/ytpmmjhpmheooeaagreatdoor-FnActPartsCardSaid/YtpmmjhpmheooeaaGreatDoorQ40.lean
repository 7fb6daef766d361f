/- The law FnActParts answers true for every code. No conditions. -/
import Derived.Test.YtpmmjhpmheooeaaGreatDoorQ20
import Derived.Test.YtpmmjhpmheooeaaGreatDoorQ39
import Derived.Test.YtpmmjhpmheooeaaGreatDoorQ30
import Derived.Test.YtpmmjhpmheooeaaGreatDoorQ37
import Derived.Test.YtpmmjhpmheooeaaGreatDoorQ38
import Derived.Test.YtpmmjhpmheooeaaGreatDoorQ29
import Derived.Deep.RegionHeld3
import Derived.Test.YtpmmjhpmheooeaaGreatDoorTie
import Derived.Test.YtpmmjhpmheooeaaGreatDoorCards
import Derived.SevenTiedAt
import Derived.LaidMore
import Derived.Lay
import Derived.OpenShut
import Derived.Stop.Joined
import Derived.Stop.LaidErr
import Derived.ProofKit
import Derived.LaidLaws
import Derived.Lib.LaidTab
import Derived.Deep.DeepCutAuto
import Derived.BigRegion
namespace Go.Proofs.YtpmmjhpmheooeaaGreatDoor
set_option linter.unusedSimpArgs false
set_option linter.unusedVariables false
section
open Go.ChangeShapes Go.WideShapes Go.ChangeAt Go.RowKit
set_option maxRecDepth 20000
theorem step_appHE {P : Program} {w : World} {ops : Array Oper} {o : Oper} {a : Act} {K : Act → World → Prop} {Q : Exit → Act → World → Prop} {E : Prop} (hw : Region.wanted o (yielded ops a.tmps) = true) (s x : Operand) (t : TypeId)
  (ho : o.op = .call { callee := .builtin .append, args := #[s, x], argTypes := #[t, t] })
  (base : Nat) (e : TypeId) (z : Value) (size bytes : Nat) (ht : P.underlying t = some (.slice e)) (hinfo : (P.info? e).map (fun i => (i.zero, i.size, i.bytes)) = some (some z, size, bytes))
  (hzs : z.cells.size = size) (hsz : 0 < size)
  (v : Value) (hs : a.eval s = v) (hown : w.ownsRow base e size v 0 [])
  (A : Option Addr) (m c : Nat) (news : List Value) (hx : a.eval x = .slice A m c) (hr : Rd w w.heap.size size A m c news) (h1 : ∀ u ∈ news, u.oneCell' = true)
  (h63 : m ≤ 9223372036854775807) (hbytes : m * bytes ≤ 140737488355328) (hbase : base ≤ w.heap.size)
  (h : ∀ A' c' w', w'.ownsRow base e size (.slice A' m c') m news → w.grownBy w' v.ownBlock → K (a.put o.dst (.slice A' m c')) w') : if Region.wanted o (yielded ops a.tmps) = true then Oper.wp P o a w K Q else E := by
 rw [if_pos hw]
 refine wp_appAll s x t ho base e z size bytes ht hinfo hzs hsz v 0 [] hs hown _ A m c news hx hr h1 (by omega) (by rw [Nat.zero_add]; exact hbytes) hbase fun A' c' w' h2 h3 => ?_
 rw [Nat.zero_add] at h2 ⊢
 rw [List.nil_append] at h2
 exact h A' c' w' h2 h3
theorem step_appHA {P : Program} {w : World} {ops : Array Oper} {o : Oper} {a : Act} {K : Act → World → Prop} {Q : Exit → Act → World → Prop} {E : Prop} (hw : Region.wanted o (yielded ops a.tmps) = true) (s x : Operand) (t : TypeId)
  (ho : o.op = .call { callee := .builtin .append, args := #[s, x], argTypes := #[t, t] })
  (base : Nat) (e : TypeId) (z : Value) (size bytes : Nat) (ht : P.underlying t = some (.slice e)) (hinfo : (P.info? e).map (fun i => (i.zero, i.size, i.bytes)) = some (some z, size, bytes))
  (hzs : z.cells.size = size) (hsz : 0 < size)
  (v : Value) (n : Nat) (xs : List Value) (hs : a.eval s = v) (hown : w.ownsRow base e size v n xs)
  (A : Option Addr) (m c : Nat) (news : List Value) (hx : a.eval x = .slice A m c) (hr : Rd w w.heap.size size A m c news) (h1 : ∀ u ∈ news, u.oneCell' = true)
  (h63 : n + m ≤ 9223372036854775807) (hbytes : (n + m) * bytes ≤ 140737488355328) (hbase : base ≤ w.heap.size)
  (h : ∀ A' c' w', w'.ownsRow base e size (.slice A' (n + m) c') (n + m) (xs ++ news) → w.grownBy w' v.ownBlock → K (a.put o.dst (.slice A' (n + m) c')) w') : if Region.wanted o (yielded ops a.tmps) = true then Oper.wp P o a w K Q else E := by
 rw [if_pos hw]
 exact wp_appAll s x t ho base e z size bytes ht hinfo hzs hsz v n xs hs hown _ A m c news hx hr h1 h63 hbytes hbase h
theorem drop_run (B : Option Addr) (n len k : Nat) (hk : k ≤ len) (hn : len ≤ n) (hmx : n ≤ 9223372036854775807) (W : World) : (Instr.sliceAt 36 (.slice B len n) (some (.int .i64 (k : Int))) none none).run Tryz.prog W = .ok (.slice (if n = k then B else Option.map (fun x => x.add (k * 3)) B) (len - k) (n - k)) W := by
 have k0 : (0 : Int) ≤ (k : Int) := by omega
 have k1 : (k : Int) ≤ (len : Int) := by omega
 have k2 : (k : Int) ≤ (n : Int) := by omega
 have k3 : k ≤ n := by omega
 have k4 : (len : Int) ≤ (n : Int) := by omega
 by_cases h9 : n = k
 ·subst h9
  go_simp
 ·have h8 : ¬ n - k = 0 := by omega
  go_simp
theorem drop_rd {w : World} {H n k : Nat} {B : Option Addr} {l : List T3} (h : RdT w H B n l) (hk : k ≤ l.length) : RdT w H (if n = k then B else Option.map (fun x => x.add (k * 3)) B) (n - k) (l.drop k) := by
 have h2 := h.2.1
 have h3 := h.2.2.1
 by_cases hlt : k < l.length
 ·obtain ⟨b, o, x, rfl, hb, hx, q0, q1, q2⟩ := h.at_ hlt
  rw [if_neg (by omega)]
  show RdT w H (some (Addr.add ⟨b, o, none⟩ (k * 3))) (n - k) (l.drop k)
  rw [Addr.add_lit]
  exact rdT_drop h hlt
 ·exact rdT_none (by rw [List.length_drop]; omega) (by omega)
set_option maxHeartbeats 6400000 in
theorem walk_FnActParts (w0 : World) (ht : Tab w0) (A0 : Option Addr) (c0 : Nat) (l0 : List Int) (h0 : RdY w0 w0.heap.size A0 c0 l0) :
  Calls Tryz.prog 5 #[.slice A0 l0.length c0] w0 fun e wi' => e = .returned (.bool true) ∧ Below w0.heap.size w0 wi' := by
 obtain ⟨hl0, hm0⟩ := h0.le
 by_cases hbig : (1048576 : Int) < l0.length
 ·go_enter Tryz.func5, Tryz.ntmps5
  go_wp2_with fail
  refine (big_any A0 l0.length c0 w0 (by omega)).mono ?_
  rintro e w1 ⟨rfl, rfl⟩
  go_wp2_with fail
  go_ret
  exact ⟨rfl, Below.refl _ _⟩
 have hs : l0.length ≤ 1048576 := by omega
 have hbd : decide ((1048576 : Int) < l0.length) = false := by simpa using hbig
 go_enter Tryz.func5, Tryz.ntmps5
 go_wp2_with fail
 refine (big_any A0 l0.length c0 w0 (by omega)).mono ?_
 rintro e w1 ⟨rfl, rfl⟩
 rw [hbd]
 go_wp2_with fail
 refine (DrawActs_any A0 c0 l0 w0 h0 hs).mono ?_
 rintro e w ⟨A, c, R, d, v, B, n, acts, rfl, ⟨hv, hok, hal⟩, hr1, hr2, hr3, hB00⟩
 have HB0 := Lib.hid hB00
 have HT : Hid (Tab w) := ht.below hB00
 have hlen := vg_lens hv
 have hkp := run_keeps hv (l := acts) (by omega)
 have hpt := fun (k : Nat) => run_parts hv (l := acts) (by omega) k
 have hk1 := fun (k : Nat) => run_keeps hv (l := acts.take k) (by rw [List.length_take]; omega)
 have hfs := fmt_some hkp.1
 have h1 := fun (W : World) (hb : Below w.heap.size w W) => RunActs_any A c R d v B n acts W (hr1.below hb) (hr2.below hb) (hr3.below hb) (by omega)
 have h2 := fun (W : World) (D : Option Addr) (m : Nat) (la : List T3) (hb : Below w.heap.size w W) (q : RdT W W.heap.size D m la) => RunActs_any A c R d v D m la W (hr1.below hb) (hr2.below hb) q (by omega)
 have HPL : Hid (∀ W, Below w.heap.size w W → Calls Tryz.prog 19 #[.slice A0 l0.length c0] W fun e w' => ∃ (A' : Option Addr) (c' : Nat) (y : List Int), e = .returned (.slice A' y.length c') ∧ RdI w' w'.heap.size A' c' y ∧ (y.length = 12 ∧ ∀ x ∈ y, 0 ≤ x ∧ x ≤ 9999) ∧ Below W.heap.size W w') := fun W hb => DrawPlaces_any A0 c0 l0 W (RdY.below h0 (HB0.out.trans (hb.mono HB0.out.size))) hs
 obtain ⟨⟨x, ns⟩, hE⟩ : ∃ r, runActs v acts = r := ⟨_, rfl⟩
 rw [hE] at h1 hkp hpt hfs
 simp only at hpt hfs hkp
 have hln : ns.length = acts.length := hkp.2
 have hlx := vg_lens hkp.1
 have HPT := Lib.hid hpt
 have HK1 := Lib.hid hk1
 have HKX := Lib.hid hkp.1
 unfold RunRet at h1
 have HT3 := Lib.hid hr3
 have HTY : Hid (∀ W, Below w.heap.size w W → Tab W) := fun W hb => HT.out.below hb
 have hcn : n ≤ 9223372036854775807 := hr3.2.2.1
 have hcl : acts.length ≤ n := hr3.2.1
 obtain ⟨⟨room, start, l, lv, ra, dk, lk⟩, rs⟩ := v
 simp only at hlen
 unfold Vg.val at h1 ⊢
 obtain ⟨⟨room', start', l', lv', ra', dr', lo'⟩, rs'⟩ := x
 simp only at h1 hr1 hr2 hlx ⊢
 have H1 := Lib.hid h1
 have H2 := Lib.hid h2
 clear h1 h2 hE hkp hpt hk1 hv hok hr1 hr2 hr3 hB00
 have hB := Below.refl w.heap.size w
 go_wp2_with fail
 first | refine name_world ?_ | refine name_wp ?_
 intro W1 hW
 replace hB : Below w.heap.size w W1 := by rw [hW]; exact tacT
 have hz_W1 : w.heap.size ≤ W1.heap.size := by rw [hW]; exact sT
 replace kb_p : Blk W1 (w.heap.size) 35 #[.int .i64 room, .int .i64 start, .slice A l.length c, .int .i64 lv, .int .i64 ra, .int .i64 dk, .int .i64 lk, .slice R rs.length d] := by rw [hW]; exact blkT
 have hLW1_p := kb_p.lt
 try clear kc_p kf_p
 clear hW
 refine (HPL.out _ hB).mono ?_
 rintro e w2 ⟨A5, c5, y, rfl, hy1, ⟨hy2, hy3⟩, hb⟩
 obtain ⟨b5, o5, y0, rfl, hb5, hy0, hc5⟩ := hy1.at_ (k := 0) (by omega)
 have hyb := hy3 y0 (List.mem_of_getElem? hy0)
 obtain ⟨yn, rfl⟩ := Int.eq_ofNat_of_zero_le hyb.1
 have hyl : (0 : Int) < (y.length : Int) := by omega
 have hc5' : w2.cell? ⟨b5, o5, none⟩ = some (.int .i64 (yn : Int)) := by simpa using hc5
 replace hB := hB.trans (Below.mono hb hB.size)
 have hz_w2 : W1.heap.size ≤ w2.heap.size := Below.size hb
 replace kb_p := kb_p.mv hb; obtain ⟨kb_p, kc_p, kf_p, hl_p, hn_p⟩ := kb_p
 clear hb
 have hkl : yn % (acts.length + 1) < acts.length + 1 := Nat.mod_lt _ (by omega)
 have hmm1 : ((yn : Nat) : Int).tmod ((acts.length : Int) + 1) = ((yn % (acts.length + 1) : Nat) : Int) := by rw [Int.tmod_eq_emod_of_nonneg (by omega)]; push_cast; rfl
 have hm2 : ((yn : Nat) : Int) % ((acts.length : Int) + 1) = ((yn % (acts.length + 1) : Nat) : Int) := by push_cast; rfl
 have hm3 : IntKind.i64.wrap ((acts.length : Int) + 1) = (acts.length : Int) + 1 := IntWalk.i64_in _ (by omega)
 have hm4 : ¬ ((acts.length : Int) + 1 = 0) := by omega
 obtain ⟨k, hkk⟩ : ∃ k, k = yn % (acts.length + 1) := ⟨_, rfl⟩
 rw [← hkk] at hkl hmm1 hm2
 clear hkk hy1 hy0 hy2 hy3
 go_wp2_with fail
 refine (H1.out _ hB).mono ?_
 rintro e w3 ⟨A1, c1, R1, d1, B1, n1, rfl, la, lb, na, nb, -, hq1, -, hq2, -, hr_e, hr_s, hr_n, hb⟩
 replace hB := hB.trans (Below.mono hb hB.size)
 have hz_w3 : w2.heap.size ≤ w3.heap.size := Below.size hb
 replace kb_p := kb_p.mv hb; obtain ⟨kb_p, kc_p, kf_p, hl_p, hn_p⟩ := kb_p
 clear hb
 clear hmm1 hm2 hm3 hm4 H1 HPL
 go_upto_region 7 with fail
 first | refine name_world ?_ | refine name_wp ?_
 intro W3 hW
 replace hB : Below w.heap.size w W3 := by rw [hW]; exact tacT
 have hz_W3 : w3.heap.size ≤ W3.heap.size := by rw [hW]; exact sT
 replace kb_p : Blk W3 (w.heap.size) 35 #[.int .i64 room, .int .i64 start, .slice A l.length c, .int .i64 lv, .int .i64 ra, .int .i64 dk, .int .i64 lk, .slice R rs.length d] := by rw [hW]; exact blkT
 have hLW3_p := kb_p.lt
 replace kb_x : Blk W3 (w3.heap.size) 35 #[.int .i64 room', .int .i64 start', .slice A1 l'.length c1, .int .i64 lv', .int .i64 ra', .int .i64 dr', .int .i64 lo', .slice R1 rs'.length d1] := by rw [hW]; exact blkT
 have hLW3_x := kb_x.lt
 replace hr_e : Row2 W3 (la) (lb) 120 3 A1 (l'.length) c1 (t3s l') := by rw [hW]; exact rowT
 replace hr_s : Row2 W3 (la) (lb) 69 3 R1 (rs'.length) d1 (t3s rs') := by rw [hW]; exact rowT
 replace hr_n : Row2 W3 (na) (nb) 3 1 B1 (ns.length) n1 (ints ns) := by rw [hW]; exact rowT
 try clear kc_p kf_p
 try clear kc_x kf_x
 clear hW
 have hzx : w3.heap.size < W3.heap.size := hLW3_x
 have HKB := Lib.hid kb_x
 have HRX := Lib.hid (And.intro hr_e.rd hr_s.rd)
 have hrn : RdI W3 W3.heap.size B1 n1 ns := hr_n.rd
 have HRN := Lib.hid hrn
 have hBW3 := Lib.hid hB
 have hzw := hB.size
 have HP8 : Hid (∀ X : World, Below W3.heap.size W3 X → X.cell? ⟨w.heap.size, 0, none⟩ = some (.int .i64 room) ∧ X.cell? ⟨w.heap.size, 1, none⟩ = some (.int .i64 start) ∧ X.cell? ⟨w.heap.size, 2, none⟩ = some (.slice A l.length c) ∧ X.cell? ⟨w.heap.size, 3, none⟩ = some (.int .i64 lv) ∧ X.cell? ⟨w.heap.size, 4, none⟩ = some (.int .i64 ra) ∧ X.cell? ⟨w.heap.size, 5, none⟩ = some (.int .i64 dk) ∧ X.cell? ⟨w.heap.size, 6, none⟩ = some (.int .i64 lk) ∧ X.cell? ⟨w.heap.size, 7, none⟩ = some (.slice R rs.length d)) := fun X hX => ⟨(Below.cell hX (p := ⟨w.heap.size, 0, none⟩) kb_p.lt).trans (kb_p.cell 0), (Below.cell hX (p := ⟨w.heap.size, 1, none⟩) kb_p.lt).trans (kb_p.cell 1), (Below.cell hX (p := ⟨w.heap.size, 2, none⟩) kb_p.lt).trans (kb_p.cell 2), (Below.cell hX (p := ⟨w.heap.size, 3, none⟩) kb_p.lt).trans (kb_p.cell 3), (Below.cell hX (p := ⟨w.heap.size, 4, none⟩) kb_p.lt).trans (kb_p.cell 4), (Below.cell hX (p := ⟨w.heap.size, 5, none⟩) kb_p.lt).trans (kb_p.cell 5), (Below.cell hX (p := ⟨w.heap.size, 6, none⟩) kb_p.lt).trans (kb_p.cell 6), (Below.cell hX (p := ⟨w.heap.size, 7, none⟩) kb_p.lt).trans (kb_p.cell 7)⟩
 have hB3 := Below.refl W3.heap.size W3
 have htl : (acts.take k).length = k := by rw [List.length_take]; omega
 have h2y := fun (W : World) (hb : Below W3.heap.size W3 W) => H2.out W B n (acts.take k) (hBW3.out.trans (hb.mono hBW3.out.size)) (rdT_take (HT3.out.below (hBW3.out.trans (hb.mono hBW3.out.size))) (by omega))
 have hp9 := HPT.out k
 have hk9 := HK1.out k
 obtain ⟨⟨⟨⟨ym, yt, yl, yv, yr, yd, yo⟩, ys⟩, mf⟩, hE1⟩ : ∃ r, runActs ⟨⟨room, start, l, lv, ra, dk, lk⟩, rs⟩ (acts.take k) = r := ⟨_, rfl⟩
 rw [hE1] at h2y hp9 hk9
 rw [htl] at h2y hk9
 unfold RunRet Vg.val at h2y
 simp only at h2y hp9 hk9
 have H2Y := Lib.hid h2y
 have HP9 := Lib.hid hp9
 have HK9 := Lib.hid hk9
 have hyl2 := vg_lens hk9.1
 simp only at hyl2
 have k0 : (0 : Int) ≤ (k : Int) := by omega
 have k1 : (k : Int) ≤ (acts.length : Int) := by omega
 have k2 : (k : Int) ≤ (n : Int) := by omega
 have k3 : k ≤ n := by omega
 have k4 : (acts.length : Int) ≤ (n : Int) := by omega
 have hn1 : w.heap.size ≠ W3.heap.size := by omega
 have hn2 : W3.heap.size ≠ w.heap.size := by omega
 clear hr_e hr_s hr_n hrn kb_p kb_x hB h2y hp9 hk9 hE1 H2 HK1 HPT hc5 hc5'
 -- @R7
 refine name_act ?_
 intro a0 ha0
 replace ha0 := Lib.hid ha0
 refine wp_region_inv (by kernel_rfl) (by kernel_rfl) (fun dn a w' => ∃ (u36 u37 u38 u39 u40 u35 u41 u42 u9 u10 : Value) (Ar : Option Addr) (cr : Nat) (Rr : Option Addr) (dr : Nat) (Br : Option Addr) (nr : Nat) (lo : Nat) (hi : Nat) (lp : Nat) (hq : Nat) (gL : Nat), a = ((((((((((a0.put (some 36) u36).put (some 37) u37).put (some 38) u38).put (some 39) u39).put (some 40) u40).put (some 35) u35).put (some 41) u41).put (some 42) u42).put (some 9) u9).put (some 10) u10) ∧ Hid (Below W3.heap.size W3 w') ∧ Hid (dn 0 = true → u36 = .agg #[.int .i64 room, .int .i64 start, .slice A l.length c, .int .i64 lv, .int .i64 ra, .int .i64 dk, .int .i64 lk, .slice R rs.length d]) ∧ Hid (dn 1 = true → u37 = .slice B acts.length n) ∧ Hid (dn 2 = true → u38 = .int .i64 (k : Int)) ∧ Hid (dn 3 = true → u39 = .slice B k n) ∧ Hid (dn 4 = true → u40 = .tuple #[.agg #[.int .i64 ym, .int .i64 yt, .slice Ar yl.length cr, .int .i64 yv, .int .i64 yr, .int .i64 yd, .int .i64 yo, .slice Rr ys.length dr], .slice Br mf.length nr]) ∧ Hid (dn 5 = true → u35 = .tuple #[.agg #[.int .i64 ym, .int .i64 yt, .slice Ar yl.length cr, .int .i64 yv, .int .i64 yr, .int .i64 yd, .int .i64 yo, .slice Rr ys.length dr], .slice Br mf.length nr]) ∧ Hid (dn 6 = true → u41 = .agg #[.int .i64 ym, .int .i64 yt, .slice Ar yl.length cr, .int .i64 yv, .int .i64 yr, .int .i64 yd, .int .i64 yo, .slice Rr ys.length dr]) ∧ Hid (dn 7 = true → u42 = .slice Br mf.length nr) ∧ Hid (dn 8 = true → u9 = .pointer (some ⟨gL, 0, none⟩)) ∧ Hid (dn 10 = true → u10 = .slice Br mf.length nr) ∧ Hid (dn 4 = true → Row2 w' lo hi 120 3 Ar yl.length cr (t3s yl) ∧ W3.heap.size ≤ lo ∧ hi ≤ w'.heap.size) ∧ Hid (dn 4 = true → Row2 w' lo hi 69 3 Rr ys.length dr (t3s ys) ∧ W3.heap.size ≤ lo ∧ hi ≤ w'.heap.size) ∧ Hid (dn 4 = true → Row2 w' lp hq 3 1 Br mf.length nr (ints mf) ∧ W3.heap.size ≤ lp ∧ hq ≤ w'.heap.size) ∧ Hid (dn 4 = true → dn 8 = true → gL < lo ∨ hi ≤ gL) ∧ Hid (dn 4 = true → dn 8 = true → gL < lp ∨ hq ≤ gL) ∧ Hid (dn 8 = true → W3.heap.size ≤ gL ∧ gL < w'.heap.size) ∧ Hid (dn 8 = true → dn 9 = false → Blk w' gL 35 #[.int .i64 0, .int .i64 0, .slice none 0 0, .int .i64 0, .int .i64 0, .int .i64 0, .int .i64 0, .slice none 0 0]) ∧ Hid (dn 9 = true → Blk w' gL 35 #[.int .i64 ym, .int .i64 yt, .slice Ar yl.length cr, .int .i64 yv, .int .i64 yr, .int .i64 yd, .int .i64 yo, .slice Rr ys.length dr])) ?_ ?_ ?_
 ·refine ⟨undef, undef, undef, undef, undef, undef, undef, undef, undef, undef, none, 0, none, 0, none, 0, 0, 0, 0, 0, 0, ?_, (Below.refl _ _).drew, ?_⟩
  ·rw [ha0.out]; simp only [Act.put, List.setIfInBounds_toArray, List.set_cons_zero, List.set_cons_succ]
  ·repeat' apply And.intro
   all_goals (show _ → _; intro h; cases h)
 ·refine ⟨?_, ?_, ?_, ?_, ?_, ?_, ?_, ?_, ?_, ?_, ?_, trivial⟩
  ·rintro dn a w' ⟨u36, u37, u38, u39, u40, u35, u41, u42, u9, u10, Ar, cr, Rr, dr, Br, nr, lo, hi, lp, hq, gL, rfl, hC, f0, f1, f2, f3, f4, f5, f6, f7, f8, f10, m0, m1, m2, s0, s2, ga, ka, ks⟩ hcl hd hdep K hK
   replace hcl := Lib.hid hcl; replace hdep := Lib.hid hdep; replace hK := Lib.hid hK; have hsz := hC.out.size
   have hS := HP8.out w' hC.out
   rw [ha0.out]
   simp only [Act.put, List.setIfInBounds_toArray, List.set_cons_zero, List.set_cons_succ]
   go_simp
   refine hK.out _ _ ⟨_, u37, u38, u39, u40, u35, u41, u42, u9, u10, Ar, cr, Rr, dr, Br, nr, lo, hi, lp, hq, gL, (by rw [ha0.out]; simp only [Act.put, List.setIfInBounds_toArray, List.set_cons_zero, List.set_cons_succ]), hC, (fun _ => rfl), f1, f2, f3, f4, f5, f6, f7, f8, f10, m0, m1, m2, s0, s2, ga, ka, ks⟩
  ·rintro dn a w' ⟨u36, u37, u38, u39, u40, u35, u41, u42, u9, u10, Ar, cr, Rr, dr, Br, nr, lo, hi, lp, hq, gL, rfl, hC, f0, f1, f2, f3, f4, f5, f6, f7, f8, f10, m0, m1, m2, s0, s2, ga, ka, ks⟩ hcl hd hdep K hK
   replace hcl := Lib.hid hcl; replace hdep := Lib.hid hdep; replace hK := Lib.hid hK; have hsz := hC.out.size
   rw [ha0.out]
   simp only [Act.put, List.setIfInBounds_toArray, List.set_cons_zero, List.set_cons_succ]
   go_simp
   refine hK.out _ _ ⟨u36, _, u38, u39, u40, u35, u41, u42, u9, u10, Ar, cr, Rr, dr, Br, nr, lo, hi, lp, hq, gL, (by rw [ha0.out]; simp only [Act.put, List.setIfInBounds_toArray, List.set_cons_zero, List.set_cons_succ]), hC, f0, (fun _ => rfl), f2, f3, f4, f5, f6, f7, f8, f10, m0, m1, m2, s0, s2, ga, ka, ks⟩
  ·rintro dn a w' ⟨u36, u37, u38, u39, u40, u35, u41, u42, u9, u10, Ar, cr, Rr, dr, Br, nr, lo, hi, lp, hq, gL, rfl, hC, f0, f1, f2, f3, f4, f5, f6, f7, f8, f10, m0, m1, m2, s0, s2, ga, ka, ks⟩ hcl hd hdep K hK
   replace hcl := Lib.hid hcl; replace hdep := Lib.hid hdep; replace hK := Lib.hid hK; have hsz := hC.out.size
   rw [ha0.out]
   simp only [Act.put, List.setIfInBounds_toArray, List.set_cons_zero, List.set_cons_succ]
   go_simp
   refine hK.out _ _ ⟨u36, u37, _, u39, u40, u35, u41, u42, u9, u10, Ar, cr, Rr, dr, Br, nr, lo, hi, lp, hq, gL, (by rw [ha0.out]; simp only [Act.put, List.setIfInBounds_toArray, List.set_cons_zero, List.set_cons_succ]), hC, f0, f1, (fun _ => rfl), f3, f4, f5, f6, f7, f8, f10, m0, m1, m2, s0, s2, ga, ka, ks⟩
  ·rintro dn a w' ⟨u36, u37, u38, u39, u40, u35, u41, u42, u9, u10, Ar, cr, Rr, dr, Br, nr, lo, hi, lp, hq, gL, rfl, hC, f0, f1, f2, f3, f4, f5, f6, f7, f8, f10, m0, m1, m2, s0, s2, ga, ka, ks⟩ hcl hd hdep K hK
   replace hcl := Lib.hid hcl; replace hdep := Lib.hid hdep; replace hK := Lib.hid hK; have hsz := hC.out.size
   obtain rfl := f1.out (dep_of hdep.out 1 (by kernel_rfl))
   obtain rfl := f2.out (dep_of hdep.out 2 (by kernel_rfl))
   rw [ha0.out]
   simp only [Act.put, List.setIfInBounds_toArray, List.set_cons_zero, List.set_cons_succ]
   go_simp
   refine hK.out _ _ ⟨u36, _, _, _, u40, u35, u41, u42, u9, u10, Ar, cr, Rr, dr, Br, nr, lo, hi, lp, hq, gL, (by rw [ha0.out]; simp only [Act.put, List.setIfInBounds_toArray, List.set_cons_zero, List.set_cons_succ]), hC, f0, f1, f2, (fun _ => rfl), f4, f5, f6, f7, f8, f10, m0, m1, m2, s0, s2, ga, ka, ks⟩
  ·rintro dn a w' ⟨u36, u37, u38, u39, u40, u35, u41, u42, u9, u10, Ar, cr, Rr, dr, Br, nr, lo, hi, lp, hq, gL, rfl, hC, f0, f1, f2, f3, f4, f5, f6, f7, f8, f10, m0, m1, m2, s0, s2, ga, ka, ks⟩ hcl hd hdep K hK
   replace hcl := Lib.hid hcl; replace hdep := Lib.hid hdep; replace hK := Lib.hid hK; have hsz := hC.out.size
   have cl5 : dn 5 = true → dn 4 = true := fun h => dep_of (hcl.out 5 _ rfl h) 4 (by kernel_rfl)
   have cl6 : dn 6 = true → dn 4 = true := fun h => cl5 (dep_of (hcl.out 6 _ rfl h) 5 (by kernel_rfl))
   have cl7 : dn 7 = true → dn 4 = true := fun h => cl5 (dep_of (hcl.out 7 _ rfl h) 5 (by kernel_rfl))
   have cl10 : dn 10 = true → dn 4 = true := fun h => cl7 (dep_of (hcl.out 10 _ rfl h) 7 (by kernel_rfl))
   have cl9 : dn 9 = true → dn 4 = true := fun h => cl6 (dep_of (hcl.out 9 _ rfl h) 6 (by kernel_rfl))
   obtain rfl := f0.out (dep_of hdep.out 0 (by kernel_rfl))
   obtain rfl := f3.out (dep_of hdep.out 3 (by kernel_rfl))
   rw [ha0.out]
   simp only [Act.put, List.setIfInBounds_toArray, List.set_cons_zero, List.set_cons_succ]
   go_simp; refine (H2Y.out _ hC.out).mono ?_; rintro e w3 ⟨Ar', cr', Rr', dr', Br', nr', rfl, lo', hi', lp', hq', q1, q2, q3, q4, _, ho0, ho1, ho2, hb⟩
   refine hK.out _ _ ⟨_, u37, u38, _, _, u35, u41, u42, u9, u10, Ar', cr', Rr', dr', Br', nr', lo', hi', lp', hq', gL, (by rw [ha0.out]; simp only [Act.put, List.setIfInBounds_toArray, List.set_cons_zero, List.set_cons_succ]), (hC.out.trans (hb.mono hsz)), f0, f1, f2, f3, (fun _ => rfl), (fun h => absurd (cl5 h) (by rw [hd]; simp)), (fun h => absurd (cl6 h) (by rw [hd]; simp)), (fun h => absurd (cl7 h) (by rw [hd]; simp)), f8, (fun h => absurd (cl10 h) (by rw [hd]; simp)), (fun _ => ⟨ho0, Nat.le_trans hsz q1, q2⟩), (fun _ => ⟨ho1, Nat.le_trans hsz q1, q2⟩), (fun _ => ⟨ho2, Nat.le_trans hsz q3, q4⟩), (fun _ h => .inl (Nat.lt_of_lt_of_le (ga.out h).2 q1)), (fun _ h => .inl (Nat.lt_of_lt_of_le (ga.out h).2 q3)), (fun h => ⟨(ga.out h).1, Nat.lt_of_lt_of_le (ga.out h).2 hb.size⟩), (fun h1 h2 => (ka.out h1 h2).below hb (ga.out h1).2), (fun h => absurd (cl9 h) (by rw [hd]; simp))⟩
  ·rintro dn a w' ⟨u36, u37, u38, u39, u40, u35, u41, u42, u9, u10, Ar, cr, Rr, dr, Br, nr, lo, hi, lp, hq, gL, rfl, hC, f0, f1, f2, f3, f4, f5, f6, f7, f8, f10, m0, m1, m2, s0, s2, ga, ka, ks⟩ hcl hd hdep K hK
   replace hcl := Lib.hid hcl; replace hdep := Lib.hid hdep; replace hK := Lib.hid hK; have hsz := hC.out.size
   obtain rfl := f4.out (dep_of hdep.out 4 (by kernel_rfl))
   rw [ha0.out]
   simp only [Act.put, List.setIfInBounds_toArray, List.set_cons_zero, List.set_cons_succ]
   go_simp
   refine hK.out _ _ ⟨u36, u37, u38, u39, _, _, u41, u42, u9, u10, Ar, cr, Rr, dr, Br, nr, lo, hi, lp, hq, gL, (by rw [ha0.out]; simp only [Act.put, List.setIfInBounds_toArray, List.set_cons_zero, List.set_cons_succ]), hC, f0, f1, f2, f3, f4, (fun _ => rfl), f6, f7, f8, f10, m0, m1, m2, s0, s2, ga, ka, ks⟩
  ·rintro dn a w' ⟨u36, u37, u38, u39, u40, u35, u41, u42, u9, u10, Ar, cr, Rr, dr, Br, nr, lo, hi, lp, hq, gL, rfl, hC, f0, f1, f2, f3, f4, f5, f6, f7, f8, f10, m0, m1, m2, s0, s2, ga, ka, ks⟩ hcl hd hdep K hK
   replace hcl := Lib.hid hcl; replace hdep := Lib.hid hdep; replace hK := Lib.hid hK; have hsz := hC.out.size
   obtain rfl := f5.out (dep_of hdep.out 5 (by kernel_rfl))
   rw [ha0.out]
   simp only [Act.put, List.setIfInBounds_toArray, List.set_cons_zero, List.set_cons_succ]
   go_simp
   refine hK.out _ _ ⟨u36, u37, u38, u39, u40, _, _, u42, u9, u10, Ar, cr, Rr, dr, Br, nr, lo, hi, lp, hq, gL, (by rw [ha0.out]; simp only [Act.put, List.setIfInBounds_toArray, List.set_cons_zero, List.set_cons_succ]), hC, f0, f1, f2, f3, f4, f5, (fun _ => rfl), f7, f8, f10, m0, m1, m2, s0, s2, ga, ka, ks⟩
  ·rintro dn a w' ⟨u36, u37, u38, u39, u40, u35, u41, u42, u9, u10, Ar, cr, Rr, dr, Br, nr, lo, hi, lp, hq, gL, rfl, hC, f0, f1, f2, f3, f4, f5, f6, f7, f8, f10, m0, m1, m2, s0, s2, ga, ka, ks⟩ hcl hd hdep K hK
   replace hcl := Lib.hid hcl; replace hdep := Lib.hid hdep; replace hK := Lib.hid hK; have hsz := hC.out.size
   obtain rfl := f5.out (dep_of hdep.out 5 (by kernel_rfl))
   rw [ha0.out]
   simp only [Act.put, List.setIfInBounds_toArray, List.set_cons_zero, List.set_cons_succ]
   go_simp
   refine hK.out _ _ ⟨u36, u37, u38, u39, u40, _, u41, _, u9, u10, Ar, cr, Rr, dr, Br, nr, lo, hi, lp, hq, gL, (by rw [ha0.out]; simp only [Act.put, List.setIfInBounds_toArray, List.set_cons_zero, List.set_cons_succ]), hC, f0, f1, f2, f3, f4, f5, f6, (fun _ => rfl), f8, f10, m0, m1, m2, s0, s2, ga, ka, ks⟩
  ·rintro dn a w' ⟨u36, u37, u38, u39, u40, u35, u41, u42, u9, u10, Ar, cr, Rr, dr, Br, nr, lo, hi, lp, hq, gL, rfl, hC, f0, f1, f2, f3, f4, f5, f6, f7, f8, f10, m0, m1, m2, s0, s2, ga, ka, ks⟩ hcl hd hdep K hK
   replace hcl := Lib.hid hcl; replace hdep := Lib.hid hdep; replace hK := Lib.hid hK; have hsz := hC.out.size
   rw [ha0.out]
   simp only [Act.put, List.setIfInBounds_toArray, List.set_cons_zero, List.set_cons_succ]
   go_simp
   have hb := Below.alloc (Below.refl w'.heap.size w') (Nat.le_refl _) (.cells #[.int .i64 0, .int .i64 0, .slice none 0 0, .int .i64 0, .int .i64 0, .int .i64 0, .int .i64 0, .slice none 0 0] 35)
   refine hK.out _ _ ⟨u36, u37, u38, u39, u40, u35, u41, u42, _, u10, Ar, cr, Rr, dr, Br, nr, lo, hi, lp, hq, w'.heap.size, (by rw [ha0.out]; simp only [Act.put, List.setIfInBounds_toArray, List.set_cons_zero, List.set_cons_succ]), (hC.out.trans (hb.mono hsz)), f0, f1, f2, f3, f4, f5, f6, f7, (fun _ => rfl), f10, (fun h => ⟨Row2.below (m0.out h).1 hb (m0.out h).2.2, (m0.out h).2.1, Nat.le_trans (m0.out h).2.2 hb.size⟩), (fun h => ⟨Row2.below (m1.out h).1 hb (m1.out h).2.2, (m1.out h).2.1, Nat.le_trans (m1.out h).2.2 hb.size⟩), (fun h => ⟨Row2.below (m2.out h).1 hb (m2.out h).2.2, (m2.out h).2.1, Nat.le_trans (m2.out h).2.2 hb.size⟩), (fun h _ => .inr (m0.out h).2.2), (fun h _ => .inr (m2.out h).2.2), (fun _ => ⟨hsz, by simp⟩), (fun _ _ => Blk.new _ _ _), (fun h => absurd (dep_of (hcl.out 9 _ rfl h) 8 (by kernel_rfl)) (by rw [hd]; simp))⟩
  ·rintro dn a w' ⟨u36, u37, u38, u39, u40, u35, u41, u42, u9, u10, Ar, cr, Rr, dr, Br, nr, lo, hi, lp, hq, gL, rfl, hC, f0, f1, f2, f3, f4, f5, f6, f7, f8, f10, m0, m1, m2, s0, s2, ga, ka, ks⟩ hcl hd hdep K hK
   replace hcl := Lib.hid hcl; replace hdep := Lib.hid hdep; replace hK := Lib.hid hK; have hsz := hC.out.size
   have cl5 : dn 5 = true → dn 4 = true := fun h => dep_of (hcl.out 5 _ rfl h) 4 (by kernel_rfl)
   have cl6 : dn 6 = true → dn 4 = true := fun h => cl5 (dep_of (hcl.out 6 _ rfl h) 5 (by kernel_rfl))
   have cl7 : dn 7 = true → dn 4 = true := fun h => cl5 (dep_of (hcl.out 7 _ rfl h) 5 (by kernel_rfl))
   have cl10 : dn 10 = true → dn 4 = true := fun h => cl7 (dep_of (hcl.out 10 _ rfl h) 7 (by kernel_rfl))
   have cl9 : dn 9 = true → dn 4 = true := fun h => cl6 (dep_of (hcl.out 9 _ rfl h) 6 (by kernel_rfl))
   have cls0 : dn 4 = true := cl6 (dep_of hdep.out 6 (by kernel_rfl))
   obtain rfl := f8.out (dep_of hdep.out 8 (by kernel_rfl))
   obtain rfl := f6.out (dep_of hdep.out 6 (by kernel_rfl))
   have qa := dep_of hdep.out 8 (by kernel_rfl)
   have ga1 := (ga.out qa).1
   have ga2 := (ga.out qa).2
   have kz := ka.out qa hd
   have kc := kz.cells
   have kf := kz.frozens
   have hch : Chg gL (gL + 1) w' ((((((((w'.setCell ⟨gL, 0, none⟩ (.int .i64 ym)).setCell ⟨gL, 1, none⟩ (.int .i64 yt)).setCell ⟨gL, 2, none⟩ (.slice Ar yl.length cr)).setCell ⟨gL, 3, none⟩ (.int .i64 yv)).setCell ⟨gL, 4, none⟩ (.int .i64 yr)).setCell ⟨gL, 5, none⟩ (.int .i64 yd)).setCell ⟨gL, 6, none⟩ (.int .i64 yo)).setCell ⟨gL, 7, none⟩ (.slice Rr ys.length dr)) := by repeat' (first | (with_reducible exact Chg.refl _ _ _) | (refine Chg.set ?_ ?_ ?_ _) | (show gL ≤ gL; omega) | (show gL < gL + 1; omega))
   rw [ha0.out]
   simp only [Act.put, List.setIfInBounds_toArray, List.set_cons_zero, List.set_cons_succ]
   go_simp
   refine hK.out _ _ ⟨u36, u37, u38, u39, u40, u35, _, u42, _, u10, Ar, cr, Rr, dr, Br, nr, lo, hi, lp, hq, gL, (by rw [ha0.out]; simp only [Act.put, List.setIfInBounds_toArray, List.set_cons_zero, List.set_cons_succ]), (Chg.below hC.out hch ga1 hsz), f0, f1, f2, f3, f4, f5, f6, f7, f8, f10, (fun h => ⟨Row2.chg (m0.out h).1 hch (by have := s0.out h qa; omega), (m0.out h).2.1, Nat.le_trans (m0.out h).2.2 hch.size⟩), (fun h => ⟨Row2.chg (m1.out h).1 hch (by have := s0.out h qa; omega), (m1.out h).2.1, Nat.le_trans (m1.out h).2.2 hch.size⟩), (fun h => ⟨Row2.chg (m2.out h).1 hch (by have := s2.out h qa; omega), (m2.out h).2.1, Nat.le_trans (m2.out h).2.2 hch.size⟩), s0, s2, (fun _ => ⟨ga1, Nat.lt_of_lt_of_le ga2 hch.size⟩), (fun _ h => absurd h (by simp [upd])), (fun _ => by exact blkT)⟩
  ·rintro dn a w' ⟨u36, u37, u38, u39, u40, u35, u41, u42, u9, u10, Ar, cr, Rr, dr, Br, nr, lo, hi, lp, hq, gL, rfl, hC, f0, f1, f2, f3, f4, f5, f6, f7, f8, f10, m0, m1, m2, s0, s2, ga, ka, ks⟩ hcl hd hdep K hK
   replace hcl := Lib.hid hcl; replace hdep := Lib.hid hdep; replace hK := Lib.hid hK; have hsz := hC.out.size
   obtain rfl := f7.out (dep_of hdep.out 7 (by kernel_rfl))
   rw [ha0.out]
   simp only [Act.put, List.setIfInBounds_toArray, List.set_cons_zero, List.set_cons_succ]
   go_simp
   refine hK.out _ _ ⟨u36, u37, u38, u39, u40, u35, u41, _, u9, _, Ar, cr, Rr, dr, Br, nr, lo, hi, lp, hq, gL, (by rw [ha0.out]; simp only [Act.put, List.setIfInBounds_toArray, List.set_cons_zero, List.set_cons_succ]), hC, f0, f1, f2, f3, f4, f5, f6, f7, f8, (fun _ => rfl), m0, m1, m2, s0, s2, ga, ka, ks⟩
 rintro dn a wc7 ⟨u36, u37, u38, u39, u40, u35, u41, u42, u9, u10, Ar7, cr7, Rr7, dr7, Br7, nr7, lo7, hi7, lp7, hq7, gL7, rfl, hb7, f0, f1, f2, f3, f4, f5, f6, f7, f8, f10, m0, m1, m2, s0, s2, ga, ka, ks⟩ hall
 obtain rfl := f0.out (hall 0 (by decide))
 obtain rfl := f1.out (hall 1 (by decide))
 obtain rfl := f2.out (hall 2 (by decide))
 obtain rfl := f3.out (hall 3 (by decide))
 obtain rfl := f4.out (hall 4 (by decide))
 obtain rfl := f5.out (hall 5 (by decide))
 obtain rfl := f6.out (hall 6 (by decide))
 obtain rfl := f7.out (hall 7 (by decide))
 obtain rfl := f8.out (hall 8 (by decide))
 obtain rfl := f10.out (hall 10 (by decide))
 have ho07 := (m0.out (hall 4 (by decide))).1
 have ho17 := (m1.out (hall 4 (by decide))).1
 have ho27 := (m2.out (hall 4 (by decide))).1
 have hq07 := (m0.out (hall 4 (by decide))).2
 have hq27 := (m2.out (hall 4 (by decide))).2
 have hgL7 := (ga.out (hall 8 (by decide))).1
 have kL7 := ks.out (hall 9 (by decide))
 clear f0 f1 f2 f3 f4 f5 f6 f7 f8 f10 m0 m1 m2 s0 s2 ga ka ks hall
 rw [ha0.out]
 simp only [Act.put, List.setIfInBounds_toArray, List.set_cons_zero, List.set_cons_succ]
 clear ha0
 replace hb7 := hb7.out
 -- @E7
 have HY8 : Hid (∀ X : World, Below wc7.heap.size wc7 X → X.cell? ⟨gL7, 0, none⟩ = some (.int .i64 ym) ∧ X.cell? ⟨gL7, 1, none⟩ = some (.int .i64 yt) ∧ X.cell? ⟨gL7, 2, none⟩ = some (.slice Ar7 yl.length cr7) ∧ X.cell? ⟨gL7, 3, none⟩ = some (.int .i64 yv) ∧ X.cell? ⟨gL7, 4, none⟩ = some (.int .i64 yr) ∧ X.cell? ⟨gL7, 5, none⟩ = some (.int .i64 yd) ∧ X.cell? ⟨gL7, 6, none⟩ = some (.int .i64 yo) ∧ X.cell? ⟨gL7, 7, none⟩ = some (.slice Rr7 ys.length dr7)) := fun X hX => ⟨(Below.cell hX (p := ⟨gL7, 0, none⟩) kL7.lt).trans (kL7.cell 0), (Below.cell hX (p := ⟨gL7, 1, none⟩) kL7.lt).trans (kL7.cell 1), (Below.cell hX (p := ⟨gL7, 2, none⟩) kL7.lt).trans (kL7.cell 2), (Below.cell hX (p := ⟨gL7, 3, none⟩) kL7.lt).trans (kL7.cell 3), (Below.cell hX (p := ⟨gL7, 4, none⟩) kL7.lt).trans (kL7.cell 4), (Below.cell hX (p := ⟨gL7, 5, none⟩) kL7.lt).trans (kL7.cell 5), (Below.cell hX (p := ⟨gL7, 6, none⟩) kL7.lt).trans (kL7.cell 6), (Below.cell hX (p := ⟨gL7, 7, none⟩) kL7.lt).trans (kL7.cell 7)⟩
 have hyE := RdT.below (show RdT wc7 wc7.heap.size Ar7 cr7 yl from ho07.rd) (Below.refl wc7.heap.size wc7)
 have hyR := RdT.below (show RdT wc7 wc7.heap.size Rr7 dr7 ys from ho17.rd) (Below.refl wc7.heap.size wc7)
 have hyN : RdI wc7 wc7.heap.size Br7 nr7 mf := ho27.rd
 have HYN := Lib.hid hyN
 obtain ⟨D, hD⟩ : ∃ D, D = (if n = k then B else Option.map (fun x => x.add (k * 3)) B) := ⟨_, rfl⟩
 have hsl := fun (W : World) => drop_run B n acts.length k (by omega) (by omega) (by omega) W
 have hdr := fun (W : World) (hb : Below w.heap.size w W) => drop_rd (k := k) (HT3.out.below hb) (by omega)
 rw [← hD] at hsl hdr
 have hdl : (acts.drop k).length = acts.length - k := List.length_drop
 have hzz : runActs ⟨⟨ym, yt, yl, yv, yr, yd, yo⟩, ys⟩ (acts.drop k) = (⟨⟨room', start', l', lv', ra', dr', lo'⟩, rs'⟩, (runActs ⟨⟨ym, yt, yl, yv, yr, yd, yo⟩, ys⟩ (acts.drop k)).2) := Prod.ext HP9.out.1.symm rfl
 have h3y := fun (W : World) (hb : Below wc7.heap.size wc7 W) => RunActs_any Ar7 cr7 Rr7 dr7 ⟨⟨ym, yt, yl, yv, yr, yd, yo⟩, ys⟩ D (n - k) (acts.drop k) W (hyE.below hb) (hyR.below hb) (hdr W (hBW3.out.trans ((hb7.trans (hb.mono hb7.size)).mono hBW3.out.size))) (by show yl.length + ys.length ≤ _; omega)
 have hns : ns = mf ++ (runActs ⟨⟨ym, yt, yl, yv, yr, yd, yo⟩, ys⟩ (acts.drop k)).2 := HP9.out.2
 rw [hzz] at h3y
 obtain ⟨mg, hmg⟩ : ∃ mg, mg = (runActs ⟨⟨ym, yt, yl, yv, yr, yd, yo⟩, ys⟩ (acts.drop k)).2 := ⟨_, rfl⟩
 rw [← hmg] at h3y hns
 rw [hdl] at h3y
 unfold RunRet Vg.val at h3y
 simp only at h3y
 have H3Y := Lib.hid h3y
 have HNS := Lib.hid hns
 have hBW7 := Lib.hid hb7
 have hz7 := hb7.size
 clear h3y hzz hmg hns hdr hD hyE hyR hyN ho07 ho17 ho27 kL7 hb7 H2Y HP8
 go_upto_region 8 with fail
 -- @R8
 refine name_act ?_
 intro a0 ha0
 replace ha0 := Lib.hid ha0
 refine wp_region_inv (by kernel_rfl) (by kernel_rfl) (fun dn a w' => ∃ (u44 u45 u46 u47 u48 u43 u49 u50 u11 u12 : Value) (Ar : Option Addr) (cr : Nat) (Rr : Option Addr) (dr : Nat) (Br : Option Addr) (nr : Nat) (lo : Nat) (hi : Nat) (lp : Nat) (hq : Nat) (gL : Nat), a = ((((((((((a0.put (some 44) u44).put (some 45) u45).put (some 46) u46).put (some 47) u47).put (some 48) u48).put (some 43) u43).put (some 49) u49).put (some 50) u50).put (some 11) u11).put (some 12) u12) ∧ Hid (Below wc7.heap.size wc7 w') ∧ Hid (dn 0 = true → u44 = .agg #[.int .i64 ym, .int .i64 yt, .slice Ar7 yl.length cr7, .int .i64 yv, .int .i64 yr, .int .i64 yd, .int .i64 yo, .slice Rr7 ys.length dr7]) ∧ Hid (dn 1 = true → u45 = .slice B acts.length n) ∧ Hid (dn 2 = true → u46 = .int .i64 (k : Int)) ∧ Hid (dn 3 = true → u47 = .slice D (acts.length - k) (n - k)) ∧ Hid (dn 4 = true → u48 = .tuple #[.agg #[.int .i64 room', .int .i64 start', .slice Ar l'.length cr, .int .i64 lv', .int .i64 ra', .int .i64 dr', .int .i64 lo', .slice Rr rs'.length dr], .slice Br mg.length nr]) ∧ Hid (dn 5 = true → u43 = .tuple #[.agg #[.int .i64 room', .int .i64 start', .slice Ar l'.length cr, .int .i64 lv', .int .i64 ra', .int .i64 dr', .int .i64 lo', .slice Rr rs'.length dr], .slice Br mg.length nr]) ∧ Hid (dn 6 = true → u49 = .agg #[.int .i64 room', .int .i64 start', .slice Ar l'.length cr, .int .i64 lv', .int .i64 ra', .int .i64 dr', .int .i64 lo', .slice Rr rs'.length dr]) ∧ Hid (dn 7 = true → u50 = .slice Br mg.length nr) ∧ Hid (dn 8 = true → u11 = .pointer (some ⟨gL, 0, none⟩)) ∧ Hid (dn 10 = true → u12 = .slice Br mg.length nr) ∧ Hid (dn 4 = true → Row2 w' lo hi 120 3 Ar l'.length cr (t3s l') ∧ wc7.heap.size ≤ lo ∧ hi ≤ w'.heap.size) ∧ Hid (dn 4 = true → Row2 w' lo hi 69 3 Rr rs'.length dr (t3s rs') ∧ wc7.heap.size ≤ lo ∧ hi ≤ w'.heap.size) ∧ Hid (dn 4 = true → Row2 w' lp hq 3 1 Br mg.length nr (ints mg) ∧ wc7.heap.size ≤ lp ∧ hq ≤ w'.heap.size) ∧ Hid (dn 4 = true → dn 8 = true → gL < lo ∨ hi ≤ gL) ∧ Hid (dn 4 = true → dn 8 = true → gL < lp ∨ hq ≤ gL) ∧ Hid (dn 8 = true → wc7.heap.size ≤ gL ∧ gL < w'.heap.size) ∧ Hid (dn 8 = true → dn 9 = false → Blk w' gL 35 #[.int .i64 0, .int .i64 0, .slice none 0 0, .int .i64 0, .int .i64 0, .int .i64 0, .int .i64 0, .slice none 0 0]) ∧ Hid (dn 9 = true → Blk w' gL 35 #[.int .i64 room', .int .i64 start', .slice Ar l'.length cr, .int .i64 lv', .int .i64 ra', .int .i64 dr', .int .i64 lo', .slice Rr rs'.length dr])) ?_ ?_ ?_
 ·refine ⟨undef, undef, undef, undef, undef, undef, undef, undef, undef, undef, none, 0, none, 0, none, 0, 0, 0, 0, 0, 0, ?_, (Below.refl _ _).drew, ?_⟩
  ·rw [ha0.out]; simp only [Act.put, List.setIfInBounds_toArray, List.set_cons_zero, List.set_cons_succ]
  ·repeat' apply And.intro
   all_goals (show _ → _; intro h; cases h)
 ·refine ⟨?_, ?_, ?_, ?_, ?_, ?_, ?_, ?_, ?_, ?_, ?_, trivial⟩
  ·rintro dn a w' ⟨u44, u45, u46, u47, u48, u43, u49, u50, u11, u12, Ar, cr, Rr, dr, Br, nr, lo, hi, lp, hq, gL, rfl, hC, f0, f1, f2, f3, f4, f5, f6, f7, f8, f10, m0, m1, m2, s0, s2, ga, ka, ks⟩ hcl hd hdep K hK
   replace hcl := Lib.hid hcl; replace hdep := Lib.hid hdep; replace hK := Lib.hid hK; have hsz := hC.out.size
   have hS := HY8.out w' hC.out
   rw [ha0.out]
   simp only [Act.put, List.setIfInBounds_toArray, List.set_cons_zero, List.set_cons_succ]
   go_simp
   refine hK.out _ _ ⟨_, u45, u46, u47, u48, u43, u49, u50, u11, u12, Ar, cr, Rr, dr, Br, nr, lo, hi, lp, hq, gL, (by rw [ha0.out]; simp only [Act.put, List.setIfInBounds_toArray, List.set_cons_zero, List.set_cons_succ]), hC, (fun _ => rfl), f1, f2, f3, f4, f5, f6, f7, f8, f10, m0, m1, m2, s0, s2, ga, ka, ks⟩
  ·rintro dn a w' ⟨u44, u45, u46, u47, u48, u43, u49, u50, u11, u12, Ar, cr, Rr, dr, Br, nr, lo, hi, lp, hq, gL, rfl, hC, f0, f1, f2, f3, f4, f5, f6, f7, f8, f10, m0, m1, m2, s0, s2, ga, ka, ks⟩ hcl hd hdep K hK
   replace hcl := Lib.hid hcl; replace hdep := Lib.hid hdep; replace hK := Lib.hid hK; have hsz := hC.out.size
   rw [ha0.out]
   simp only [Act.put, List.setIfInBounds_toArray, List.set_cons_zero, List.set_cons_succ]
   go_simp
   refine hK.out _ _ ⟨u44, _, u46, u47, u48, u43, u49, u50, u11, u12, Ar, cr, Rr, dr, Br, nr, lo, hi, lp, hq, gL, (by rw [ha0.out]; simp only [Act.put, List.setIfInBounds_toArray, List.set_cons_zero, List.set_cons_succ]), hC, f0, (fun _ => rfl), f2, f3, f4, f5, f6, f7, f8, f10, m0, m1, m2, s0, s2, ga, ka, ks⟩
  ·rintro dn a w' ⟨u44, u45, u46, u47, u48, u43, u49, u50, u11, u12, Ar, cr, Rr, dr, Br, nr, lo, hi, lp, hq, gL, rfl, hC, f0, f1, f2, f3, f4, f5, f6, f7, f8, f10, m0, m1, m2, s0, s2, ga, ka, ks⟩ hcl hd hdep K hK
   replace hcl := Lib.hid hcl; replace hdep := Lib.hid hdep; replace hK := Lib.hid hK; have hsz := hC.out.size
   rw [ha0.out]
   simp only [Act.put, List.setIfInBounds_toArray, List.set_cons_zero, List.set_cons_succ]
   go_simp
   refine hK.out _ _ ⟨u44, u45, _, u47, u48, u43, u49, u50, u11, u12, Ar, cr, Rr, dr, Br, nr, lo, hi, lp, hq, gL, (by rw [ha0.out]; simp only [Act.put, List.setIfInBounds_toArray, List.set_cons_zero, List.set_cons_succ]), hC, f0, f1, (fun _ => rfl), f3, f4, f5, f6, f7, f8, f10, m0, m1, m2, s0, s2, ga, ka, ks⟩
  ·rintro dn a w' ⟨u44, u45, u46, u47, u48, u43, u49, u50, u11, u12, Ar, cr, Rr, dr, Br, nr, lo, hi, lp, hq, gL, rfl, hC, f0, f1, f2, f3, f4, f5, f6, f7, f8, f10, m0, m1, m2, s0, s2, ga, ka, ks⟩ hcl hd hdep K hK
   replace hcl := Lib.hid hcl; replace hdep := Lib.hid hdep; replace hK := Lib.hid hK; have hsz := hC.out.size
   obtain rfl := f1.out (dep_of hdep.out 1 (by kernel_rfl))
   obtain rfl := f2.out (dep_of hdep.out 2 (by kernel_rfl))
   rw [ha0.out]
   simp only [Act.put, List.setIfInBounds_toArray, List.set_cons_zero, List.set_cons_succ]
   go_simp
   refine hK.out _ _ ⟨u44, _, _, _, u48, u43, u49, u50, u11, u12, Ar, cr, Rr, dr, Br, nr, lo, hi, lp, hq, gL, (by rw [ha0.out]; simp only [Act.put, List.setIfInBounds_toArray, List.set_cons_zero, List.set_cons_succ]), hC, f0, f1, f2, (fun _ => rfl), f4, f5, f6, f7, f8, f10, m0, m1, m2, s0, s2, ga, ka, ks⟩
  ·rintro dn a w' ⟨u44, u45, u46, u47, u48, u43, u49, u50, u11, u12, Ar, cr, Rr, dr, Br, nr, lo, hi, lp, hq, gL, rfl, hC, f0, f1, f2, f3, f4, f5, f6, f7, f8, f10, m0, m1, m2, s0, s2, ga, ka, ks⟩ hcl hd hdep K hK
   replace hcl := Lib.hid hcl; replace hdep := Lib.hid hdep; replace hK := Lib.hid hK; have hsz := hC.out.size
   have cl5 : dn 5 = true → dn 4 = true := fun h => dep_of (hcl.out 5 _ rfl h) 4 (by kernel_rfl)
   have cl6 : dn 6 = true → dn 4 = true := fun h => cl5 (dep_of (hcl.out 6 _ rfl h) 5 (by kernel_rfl))
   have cl7 : dn 7 = true → dn 4 = true := fun h => cl5 (dep_of (hcl.out 7 _ rfl h) 5 (by kernel_rfl))
   have cl10 : dn 10 = true → dn 4 = true := fun h => cl7 (dep_of (hcl.out 10 _ rfl h) 7 (by kernel_rfl))
   have cl9 : dn 9 = true → dn 4 = true := fun h => cl6 (dep_of (hcl.out 9 _ rfl h) 6 (by kernel_rfl))
   obtain rfl := f0.out (dep_of hdep.out 0 (by kernel_rfl))
   obtain rfl := f3.out (dep_of hdep.out 3 (by kernel_rfl))
   rw [ha0.out]
   simp only [Act.put, List.setIfInBounds_toArray, List.set_cons_zero, List.set_cons_succ]
   go_simp; refine (H3Y.out _ hC.out).mono ?_; rintro e w3 ⟨Ar', cr', Rr', dr', Br', nr', rfl, lo', hi', lp', hq', q1, q2, q3, q4, _, ho0, ho1, ho2, hb⟩
   refine hK.out _ _ ⟨_, u45, u46, _, _, u43, u49, u50, u11, u12, Ar', cr', Rr', dr', Br', nr', lo', hi', lp', hq', gL, (by rw [ha0.out]; simp only [Act.put, List.setIfInBounds_toArray, List.set_cons_zero, List.set_cons_succ]), (hC.out.trans (hb.mono hsz)), f0, f1, f2, f3, (fun _ => rfl), (fun h => absurd (cl5 h) (by rw [hd]; simp)), (fun h => absurd (cl6 h) (by rw [hd]; simp)), (fun h => absurd (cl7 h) (by rw [hd]; simp)), f8, (fun h => absurd (cl10 h) (by rw [hd]; simp)), (fun _ => ⟨ho0, Nat.le_trans hsz q1, q2⟩), (fun _ => ⟨ho1, Nat.le_trans hsz q1, q2⟩), (fun _ => ⟨ho2, Nat.le_trans hsz q3, q4⟩), (fun _ h => .inl (Nat.lt_of_lt_of_le (ga.out h).2 q1)), (fun _ h => .inl (Nat.lt_of_lt_of_le (ga.out h).2 q3)), (fun h => ⟨(ga.out h).1, Nat.lt_of_lt_of_le (ga.out h).2 hb.size⟩), (fun h1 h2 => (ka.out h1 h2).below hb (ga.out h1).2), (fun h => absurd (cl9 h) (by rw [hd]; simp))⟩
  ·rintro dn a w' ⟨u44, u45, u46, u47, u48, u43, u49, u50, u11, u12, Ar, cr, Rr, dr, Br, nr, lo, hi, lp, hq, gL, rfl, hC, f0, f1, f2, f3, f4, f5, f6, f7, f8, f10, m0, m1, m2, s0, s2, ga, ka, ks⟩ hcl hd hdep K hK
   replace hcl := Lib.hid hcl; replace hdep := Lib.hid hdep; replace hK := Lib.hid hK; have hsz := hC.out.size
   obtain rfl := f4.out (dep_of hdep.out 4 (by kernel_rfl))
   rw [ha0.out]
   simp only [Act.put, List.setIfInBounds_toArray, List.set_cons_zero, List.set_cons_succ]
   go_simp
   refine hK.out _ _ ⟨u44, u45, u46, u47, _, _, u49, u50, u11, u12, Ar, cr, Rr, dr, Br, nr, lo, hi, lp, hq, gL, (by rw [ha0.out]; simp only [Act.put, List.setIfInBounds_toArray, List.set_cons_zero, List.set_cons_succ]), hC, f0, f1, f2, f3, f4, (fun _ => rfl), f6, f7, f8, f10, m0, m1, m2, s0, s2, ga, ka, ks⟩
  ·rintro dn a w' ⟨u44, u45, u46, u47, u48, u43, u49, u50, u11, u12, Ar, cr, Rr, dr, Br, nr, lo, hi, lp, hq, gL, rfl, hC, f0, f1, f2, f3, f4, f5, f6, f7, f8, f10, m0, m1, m2, s0, s2, ga, ka, ks⟩ hcl hd hdep K hK
   replace hcl := Lib.hid hcl; replace hdep := Lib.hid hdep; replace hK := Lib.hid hK; have hsz := hC.out.size
   obtain rfl := f5.out (dep_of hdep.out 5 (by kernel_rfl))
   rw [ha0.out]
   simp only [Act.put, List.setIfInBounds_toArray, List.set_cons_zero, List.set_cons_succ]
   go_simp
   refine hK.out _ _ ⟨u44, u45, u46, u47, u48, _, _, u50, u11, u12, Ar, cr, Rr, dr, Br, nr, lo, hi, lp, hq, gL, (by rw [ha0.out]; simp only [Act.put, List.setIfInBounds_toArray, List.set_cons_zero, List.set_cons_succ]), hC, f0, f1, f2, f3, f4, f5, (fun _ => rfl), f7, f8, f10, m0, m1, m2, s0, s2, ga, ka, ks⟩
  ·rintro dn a w' ⟨u44, u45, u46, u47, u48, u43, u49, u50, u11, u12, Ar, cr, Rr, dr, Br, nr, lo, hi, lp, hq, gL, rfl, hC, f0, f1, f2, f3, f4, f5, f6, f7, f8, f10, m0, m1, m2, s0, s2, ga, ka, ks⟩ hcl hd hdep K hK
   replace hcl := Lib.hid hcl; replace hdep := Lib.hid hdep; replace hK := Lib.hid hK; have hsz := hC.out.size
   obtain rfl := f5.out (dep_of hdep.out 5 (by kernel_rfl))
   rw [ha0.out]
   simp only [Act.put, List.setIfInBounds_toArray, List.set_cons_zero, List.set_cons_succ]
   go_simp
   refine hK.out _ _ ⟨u44, u45, u46, u47, u48, _, u49, _, u11, u12, Ar, cr, Rr, dr, Br, nr, lo, hi, lp, hq, gL, (by rw [ha0.out]; simp only [Act.put, List.setIfInBounds_toArray, List.set_cons_zero, List.set_cons_succ]), hC, f0, f1, f2, f3, f4, f5, f6, (fun _ => rfl), f8, f10, m0, m1, m2, s0, s2, ga, ka, ks⟩
  ·rintro dn a w' ⟨u44, u45, u46, u47, u48, u43, u49, u50, u11, u12, Ar, cr, Rr, dr, Br, nr, lo, hi, lp, hq, gL, rfl, hC, f0, f1, f2, f3, f4, f5, f6, f7, f8, f10, m0, m1, m2, s0, s2, ga, ka, ks⟩ hcl hd hdep K hK
   replace hcl := Lib.hid hcl; replace hdep := Lib.hid hdep; replace hK := Lib.hid hK; have hsz := hC.out.size
   rw [ha0.out]
   simp only [Act.put, List.setIfInBounds_toArray, List.set_cons_zero, List.set_cons_succ]
   go_simp
   have hb := Below.alloc (Below.refl w'.heap.size w') (Nat.le_refl _) (.cells #[.int .i64 0, .int .i64 0, .slice none 0 0, .int .i64 0, .int .i64 0, .int .i64 0, .int .i64 0, .slice none 0 0] 35)
   refine hK.out _ _ ⟨u44, u45, u46, u47, u48, u43, u49, u50, _, u12, Ar, cr, Rr, dr, Br, nr, lo, hi, lp, hq, w'.heap.size, (by rw [ha0.out]; simp only [Act.put, List.setIfInBounds_toArray, List.set_cons_zero, List.set_cons_succ]), (hC.out.trans (hb.mono hsz)), f0, f1, f2, f3, f4, f5, f6, f7, (fun _ => rfl), f10, (fun h => ⟨Row2.below (m0.out h).1 hb (m0.out h).2.2, (m0.out h).2.1, Nat.le_trans (m0.out h).2.2 hb.size⟩), (fun h => ⟨Row2.below (m1.out h).1 hb (m1.out h).2.2, (m1.out h).2.1, Nat.le_trans (m1.out h).2.2 hb.size⟩), (fun h => ⟨Row2.below (m2.out h).1 hb (m2.out h).2.2, (m2.out h).2.1, Nat.le_trans (m2.out h).2.2 hb.size⟩), (fun h _ => .inr (m0.out h).2.2), (fun h _ => .inr (m2.out h).2.2), (fun _ => ⟨hsz, by simp⟩), (fun _ _ => Blk.new _ _ _), (fun h => absurd (dep_of (hcl.out 9 _ rfl h) 8 (by kernel_rfl)) (by rw [hd]; simp))⟩
  ·rintro dn a w' ⟨u44, u45, u46, u47, u48, u43, u49, u50, u11, u12, Ar, cr, Rr, dr, Br, nr, lo, hi, lp, hq, gL, rfl, hC, f0, f1, f2, f3, f4, f5, f6, f7, f8, f10, m0, m1, m2, s0, s2, ga, ka, ks⟩ hcl hd hdep K hK
   replace hcl := Lib.hid hcl; replace hdep := Lib.hid hdep; replace hK := Lib.hid hK; have hsz := hC.out.size
   have cl5 : dn 5 = true → dn 4 = true := fun h => dep_of (hcl.out 5 _ rfl h) 4 (by kernel_rfl)
   have cl6 : dn 6 = true → dn 4 = true := fun h => cl5 (dep_of (hcl.out 6 _ rfl h) 5 (by kernel_rfl))
   have cl7 : dn 7 = true → dn 4 = true := fun h => cl5 (dep_of (hcl.out 7 _ rfl h) 5 (by kernel_rfl))
   have cl10 : dn 10 = true → dn 4 = true := fun h => cl7 (dep_of (hcl.out 10 _ rfl h) 7 (by kernel_rfl))
   have cl9 : dn 9 = true → dn 4 = true := fun h => cl6 (dep_of (hcl.out 9 _ rfl h) 6 (by kernel_rfl))
   have cls0 : dn 4 = true := cl6 (dep_of hdep.out 6 (by kernel_rfl))
   obtain rfl := f8.out (dep_of hdep.out 8 (by kernel_rfl))
   obtain rfl := f6.out (dep_of hdep.out 6 (by kernel_rfl))
   have qa := dep_of hdep.out 8 (by kernel_rfl)
   have ga1 := (ga.out qa).1
   have ga2 := (ga.out qa).2
   have kz := ka.out qa hd
   have kc := kz.cells
   have kf := kz.frozens
   have hch : Chg gL (gL + 1) w' ((((((((w'.setCell ⟨gL, 0, none⟩ (.int .i64 room')).setCell ⟨gL, 1, none⟩ (.int .i64 start')).setCell ⟨gL, 2, none⟩ (.slice Ar l'.length cr)).setCell ⟨gL, 3, none⟩ (.int .i64 lv')).setCell ⟨gL, 4, none⟩ (.int .i64 ra')).setCell ⟨gL, 5, none⟩ (.int .i64 dr')).setCell ⟨gL, 6, none⟩ (.int .i64 lo')).setCell ⟨gL, 7, none⟩ (.slice Rr rs'.length dr)) := by repeat' (first | (with_reducible exact Chg.refl _ _ _) | (refine Chg.set ?_ ?_ ?_ _) | (show gL ≤ gL; omega) | (show gL < gL + 1; omega))
   rw [ha0.out]
   simp only [Act.put, List.setIfInBounds_toArray, List.set_cons_zero, List.set_cons_succ]
   go_simp
   refine hK.out _ _ ⟨u44, u45, u46, u47, u48, u43, _, u50, _, u12, Ar, cr, Rr, dr, Br, nr, lo, hi, lp, hq, gL, (by rw [ha0.out]; simp only [Act.put, List.setIfInBounds_toArray, List.set_cons_zero, List.set_cons_succ]), (Chg.below hC.out hch ga1 hsz), f0, f1, f2, f3, f4, f5, f6, f7, f8, f10, (fun h => ⟨Row2.chg (m0.out h).1 hch (by have := s0.out h qa; omega), (m0.out h).2.1, Nat.le_trans (m0.out h).2.2 hch.size⟩), (fun h => ⟨Row2.chg (m1.out h).1 hch (by have := s0.out h qa; omega), (m1.out h).2.1, Nat.le_trans (m1.out h).2.2 hch.size⟩), (fun h => ⟨Row2.chg (m2.out h).1 hch (by have := s2.out h qa; omega), (m2.out h).2.1, Nat.le_trans (m2.out h).2.2 hch.size⟩), s0, s2, (fun _ => ⟨ga1, Nat.lt_of_lt_of_le ga2 hch.size⟩), (fun _ h => absurd h (by simp [upd])), (fun _ => by exact blkT)⟩
  ·rintro dn a w' ⟨u44, u45, u46, u47, u48, u43, u49, u50, u11, u12, Ar, cr, Rr, dr, Br, nr, lo, hi, lp, hq, gL, rfl, hC, f0, f1, f2, f3, f4, f5, f6, f7, f8, f10, m0, m1, m2, s0, s2, ga, ka, ks⟩ hcl hd hdep K hK
   replace hcl := Lib.hid hcl; replace hdep := Lib.hid hdep; replace hK := Lib.hid hK; have hsz := hC.out.size
   obtain rfl := f7.out (dep_of hdep.out 7 (by kernel_rfl))
   rw [ha0.out]
   simp only [Act.put, List.setIfInBounds_toArray, List.set_cons_zero, List.set_cons_succ]
   go_simp
   refine hK.out _ _ ⟨u44, u45, u46, u47, u48, u43, u49, _, u11, _, Ar, cr, Rr, dr, Br, nr, lo, hi, lp, hq, gL, (by rw [ha0.out]; simp only [Act.put, List.setIfInBounds_toArray, List.set_cons_zero, List.set_cons_succ]), hC, f0, f1, f2, f3, f4, f5, f6, f7, f8, (fun _ => rfl), m0, m1, m2, s0, s2, ga, ka, ks⟩
 rintro dn a wc8 ⟨u44, u45, u46, u47, u48, u43, u49, u50, u11, u12, Ar8, cr8, Rr8, dr8, Br8, nr8, lo8, hi8, lp8, hq8, gL8, rfl, hb8, f0, f1, f2, f3, f4, f5, f6, f7, f8, f10, m0, m1, m2, s0, s2, ga, ka, ks⟩ hall
 obtain rfl := f0.out (hall 0 (by decide))
 obtain rfl := f1.out (hall 1 (by decide))
 obtain rfl := f2.out (hall 2 (by decide))
 obtain rfl := f3.out (hall 3 (by decide))
 obtain rfl := f4.out (hall 4 (by decide))
 obtain rfl := f5.out (hall 5 (by decide))
 obtain rfl := f6.out (hall 6 (by decide))
 obtain rfl := f7.out (hall 7 (by decide))
 obtain rfl := f8.out (hall 8 (by decide))
 obtain rfl := f10.out (hall 10 (by decide))
 have ho08 := (m0.out (hall 4 (by decide))).1
 have ho18 := (m1.out (hall 4 (by decide))).1
 have ho28 := (m2.out (hall 4 (by decide))).1
 have hq08 := (m0.out (hall 4 (by decide))).2
 have hq28 := (m2.out (hall 4 (by decide))).2
 have hgL8 := (ga.out (hall 8 (by decide))).1
 have kL8 := ks.out (hall 9 (by decide))
 clear f0 f1 f2 f3 f4 f5 f6 f7 f8 f10 m0 m1 m2 s0 s2 ga ka ks hall
 rw [ha0.out]
 simp only [Act.put, List.setIfInBounds_toArray, List.set_cons_zero, List.set_cons_succ]
 clear ha0
 replace hb8 := hb8.out
 -- @E8
 have hB8 := hBW7.out.trans (hb8.mono hBW7.out.size)
 have hz8 := hB8.size
 have kbx := HKB.out.below hB8 HKB.out.lt
 have HS8 : Hid (∀ X : World, Below wc8.heap.size wc8 X → X.cell? ⟨w3.heap.size, 0, none⟩ = some (.int .i64 room') ∧ X.cell? ⟨w3.heap.size, 1, none⟩ = some (.int .i64 start') ∧ X.cell? ⟨w3.heap.size, 2, none⟩ = some (.slice A1 l'.length c1) ∧ X.cell? ⟨w3.heap.size, 3, none⟩ = some (.int .i64 lv') ∧ X.cell? ⟨w3.heap.size, 4, none⟩ = some (.int .i64 ra') ∧ X.cell? ⟨w3.heap.size, 5, none⟩ = some (.int .i64 dr') ∧ X.cell? ⟨w3.heap.size, 6, none⟩ = some (.int .i64 lo') ∧ X.cell? ⟨w3.heap.size, 7, none⟩ = some (.slice R1 rs'.length d1) ∧ X.cell? ⟨gL8, 0, none⟩ = some (.int .i64 room') ∧ X.cell? ⟨gL8, 1, none⟩ = some (.int .i64 start') ∧ X.cell? ⟨gL8, 2, none⟩ = some (.slice Ar8 l'.length cr8) ∧ X.cell? ⟨gL8, 3, none⟩ = some (.int .i64 lv') ∧ X.cell? ⟨gL8, 4, none⟩ = some (.int .i64 ra') ∧ X.cell? ⟨gL8, 5, none⟩ = some (.int .i64 dr') ∧ X.cell? ⟨gL8, 6, none⟩ = some (.int .i64 lo') ∧ X.cell? ⟨gL8, 7, none⟩ = some (.slice Rr8 rs'.length dr8)) := fun X hX => ⟨(Below.cell hX (p := ⟨w3.heap.size, 0, none⟩) kbx.lt).trans (kbx.cell 0), (Below.cell hX (p := ⟨w3.heap.size, 1, none⟩) kbx.lt).trans (kbx.cell 1), (Below.cell hX (p := ⟨w3.heap.size, 2, none⟩) kbx.lt).trans (kbx.cell 2), (Below.cell hX (p := ⟨w3.heap.size, 3, none⟩) kbx.lt).trans (kbx.cell 3), (Below.cell hX (p := ⟨w3.heap.size, 4, none⟩) kbx.lt).trans (kbx.cell 4), (Below.cell hX (p := ⟨w3.heap.size, 5, none⟩) kbx.lt).trans (kbx.cell 5), (Below.cell hX (p := ⟨w3.heap.size, 6, none⟩) kbx.lt).trans (kbx.cell 6), (Below.cell hX (p := ⟨w3.heap.size, 7, none⟩) kbx.lt).trans (kbx.cell 7), (Below.cell hX (p := ⟨gL8, 0, none⟩) kL8.lt).trans (kL8.cell 0), (Below.cell hX (p := ⟨gL8, 1, none⟩) kL8.lt).trans (kL8.cell 1), (Below.cell hX (p := ⟨gL8, 2, none⟩) kL8.lt).trans (kL8.cell 2), (Below.cell hX (p := ⟨gL8, 3, none⟩) kL8.lt).trans (kL8.cell 3), (Below.cell hX (p := ⟨gL8, 4, none⟩) kL8.lt).trans (kL8.cell 4), (Below.cell hX (p := ⟨gL8, 5, none⟩) kL8.lt).trans (kL8.cell 5), (Below.cell hX (p := ⟨gL8, 6, none⟩) kL8.lt).trans (kL8.cell 6), (Below.cell hX (p := ⟨gL8, 7, none⟩) kL8.lt).trans (kL8.cell 7)⟩
 have HRX8 := Lib.hid (And.intro (RdT.below HRX.out.1 hB8) (RdT.below HRX.out.2 hB8))
 have HRZ8 := Lib.hid (And.intro (show RdT wc8 wc8.heap.size Ar8 cr8 l' from ho08.rd) (show RdT wc8 wc8.heap.size Rr8 dr8 rs' from ho18.rd))
 have hrn8 : RdI wc8 wc8.heap.size B1 n1 ns := Rd.below' HRN.out hB8
 have hrf8 : RdI wc8 wc8.heap.size Br7 nr7 mf := Rd.below' HYN.out hb8
 have hrg8 : RdI wc8 wc8.heap.size Br8 nr8 mg := ho28.rd
 have HN8 := Lib.hid (And.intro hrn8 (And.intro hrf8 hrg8))
 have HT8 : Hid (∀ W, Below wc8.heap.size wc8 W → Tab W) := fun W hb => HTY.out _ (hBW3.out.trans ((hB8.trans (hb.mono hB8.size)).mono hBW3.out.size))
 obtain ⟨fm, hfm⟩ : ∃ fm, fm = fmtV ⟨⟨room', start', l', lv', ra', dr', lo'⟩, rs'⟩ := ⟨_, rfl⟩
 have hfl := fmtV_len ⟨⟨room', start', l', lv', ra', dr', lo'⟩, rs'⟩
 rw [← hfm] at hfs hfl
 have HVX : Hid (∀ W, Below wc8.heap.size wc8 W → Calls Tryz.prog 17 #[.agg #[.int .i64 room', .int .i64 start', .slice A1 l'.length c1, .int .i64 lv', .int .i64 ra', .int .i64 dr', .int .i64 lo', .slice R1 rs'.length d1]] W fun e w' => ∃ A' c', e = .returned (.slice A' fm.length c') ∧ OwnSt w' W.heap.size A' c' fm ∧ Below W.heap.size W w') := fun W hb => by rw [hfm]; exact FormatVillage_any A1 c1 R1 d1 ⟨⟨room', start', l', lv', ra', dr', lo'⟩, rs'⟩ W (RdT.below HRX8.out.1 hb) (RdT.below HRX8.out.2 hb) (by show l'.length ≤ _; omega) (HT8.out _ hb)
 have HVZ : Hid (∀ W, Below wc8.heap.size wc8 W → Calls Tryz.prog 17 #[.agg #[.int .i64 room', .int .i64 start', .slice Ar8 l'.length cr8, .int .i64 lv', .int .i64 ra', .int .i64 dr', .int .i64 lo', .slice Rr8 rs'.length dr8]] W fun e w' => ∃ A' c', e = .returned (.slice A' fm.length c') ∧ OwnSt w' W.heap.size A' c' fm ∧ Below W.heap.size W w') := fun W hb => by rw [hfm]; exact FormatVillage_any Ar8 cr8 Rr8 dr8 ⟨⟨room', start', l', lv', ra', dr', lo'⟩, rs'⟩ W (RdT.below HRZ8.out.1 hb) (RdT.below HRZ8.out.2 hb) (by show l'.length ≤ _; omega) (HT8.out _ hb)
 have hnl := congrArg List.length HNS.out
 rw [List.length_append] at hnl
 have HSI : Hid (∀ (W : World) (A : Option Addr) (c : Nat), Below wc8.heap.size wc8 W → Rd W W.heap.size 1 A (mf.length + mg.length) c (ints mf ++ ints mg) → Calls Tryz.prog 20 #[.slice B1 acts.length n1, .slice A (mf.length + mg.length) c] W fun e w' => e = .returned (.bool true) ∧ Below W.heap.size W w') := fun W A c hb h => by
  have h9 := sameInts_same B1 n1 A c ns W (Rd.below' HN8.out.1 hb) (by
   unfold RdI
   rw [hnl, HNS.out]
   have e : ints (mf ++ mg) = ints mf ++ ints mg := by unfold ints; rw [List.map_append]
   rw [e]; exact h)
  rw [← hln]
  rw [← hnl]
  exact h9
 have hmf : mf.length ≤ 13 := by omega
 have hmg : mg.length ≤ 13 := by omega
 have g0 : (0 : Int) < (fm.length : Int) := by omega
 have g1 : decide ((0 : Int) < (fm.length : Int)) = true := decide_eq_true g0
 have g2 : decide (0 < fm.length) = true := decide_eq_true hfs
 have hgx : w3.heap.size < wc8.heap.size := kbx.lt
 have hgz : gL8 < wc8.heap.size := kL8.lt
 have hCC := Below.refl wc8.heap.size wc8
 have HBE := Lib.hid (hBW3.out.trans (hB8.mono hBW3.out.size))
 clear hnl hfm kbx kL8 ho08 ho18 ho28 hrn8 hrf8 hrg8 hb8 hB8
 go_upto_region 9 with fail
 go_region_held3 (fun X => X.cell? ⟨w3.heap.size, 0, none⟩ = some (.int .i64 room') ∧ X.cell? ⟨w3.heap.size, 1, none⟩ = some (.int .i64 start') ∧ X.cell? ⟨w3.heap.size, 2, none⟩ = some (.slice A1 l'.length c1) ∧ X.cell? ⟨w3.heap.size, 3, none⟩ = some (.int .i64 lv') ∧ X.cell? ⟨w3.heap.size, 4, none⟩ = some (.int .i64 ra') ∧ X.cell? ⟨w3.heap.size, 5, none⟩ = some (.int .i64 dr') ∧ X.cell? ⟨w3.heap.size, 6, none⟩ = some (.int .i64 lo') ∧ X.cell? ⟨w3.heap.size, 7, none⟩ = some (.slice R1 rs'.length d1) ∧ X.cell? ⟨gL8, 0, none⟩ = some (.int .i64 room') ∧ X.cell? ⟨gL8, 1, none⟩ = some (.int .i64 start') ∧ X.cell? ⟨gL8, 2, none⟩ = some (.slice Ar8 l'.length cr8) ∧ X.cell? ⟨gL8, 3, none⟩ = some (.int .i64 lv') ∧ X.cell? ⟨gL8, 4, none⟩ = some (.int .i64 ra') ∧ X.cell? ⟨gL8, 5, none⟩ = some (.int .i64 dr') ∧ X.cell? ⟨gL8, 6, none⟩ = some (.int .i64 lo') ∧ X.cell? ⟨gL8, 7, none⟩ = some (.slice Rr8 rs'.length dr8)) ((refine HS8.out _ ?_; (repeat' (first | (with_reducible exact Below.refl _ _) | (with_reducible assumption) | (with_reducible refine Below.alloc ?_ ?_ _) | (with_reducible refine Below.setCell ?_ ?_ _) | (with_reducible refine Below.drew ?_) | (with_reducible refine below_drewN ?_ _) | (refine Below.trans ?_ (Below.mono (by with_reducible assumption) ?_)) | omega | (simp; done) | (simp; omega))); done))
  ((first | (go_at_call 17; with_reducible refine (HVX.out _ ?_).mono ?_; (focus ((repeat' (first | (with_reducible exact Below.refl _ _) | (with_reducible assumption) | (with_reducible refine Below.alloc ?_ ?_ _) | (with_reducible refine Below.setCell ?_ ?_ _) | (with_reducible refine Below.drew ?_) | (with_reducible refine below_drewN ?_ _) | (refine Below.trans ?_ (Below.mono (by with_reducible assumption) ?_)) | omega | (simp; done) | (simp; omega))); done)); rintro e wf ⟨AF, cF, rfl, hoF, hbF⟩; have hCF : Below wc8.heap.size wc8 wf := (by exact tacT); have hzF : wc8.heap.size ≤ wf.heap.size := hCF.size; have HFr := Lib.hid (OwnSt.rd hoF); clear hoF) | (go_at_call 17; with_reducible refine (HVZ.out _ ?_).mono ?_; (focus ((repeat' (first | (with_reducible exact Below.refl _ _) | (with_reducible assumption) | (with_reducible refine Below.alloc ?_ ?_ _) | (with_reducible refine Below.setCell ?_ ?_ _) | (with_reducible refine Below.drew ?_) | (with_reducible refine below_drewN ?_ _) | (refine Below.trans ?_ (Below.mono (by with_reducible assumption) ?_)) | omega | (simp; done) | (simp; omega))); done)); rintro e wz ⟨AZ, cZ, rfl, hoZ, hbZ⟩; have hCZ : Below wc8.heap.size wc8 wz := (by exact tacT); have hzZ : wc8.heap.size ≤ wz.heap.size := hCZ.size; have HZr := Lib.hid (OwnSt.rd hoZ); clear hoZ) | (go_at_call 18; refine (sameTexts_same AF cF AZ cZ fm _ ?_ ?_).mono ?_; (focus (refine Rd.below' HFr.out ?_; (repeat' (first | (with_reducible exact Below.refl _ _) | (with_reducible assumption) | (with_reducible refine Below.alloc ?_ ?_ _) | (with_reducible refine Below.setCell ?_ ?_ _) | (with_reducible refine Below.drew ?_) | (with_reducible refine below_drewN ?_ _) | (refine Below.trans ?_ (Below.mono (by with_reducible assumption) ?_)) | omega | (simp; done) | (simp; omega))); done)); (focus (refine Rd.below' HZr.out ?_; (repeat' (first | (with_reducible exact Below.refl _ _) | (with_reducible assumption) | (with_reducible refine Below.alloc ?_ ?_ _) | (with_reducible refine Below.setCell ?_ ?_ _) | (with_reducible refine Below.drew ?_) | (with_reducible refine below_drewN ?_ _) | (refine Below.trans ?_ (Below.mono (by with_reducible assumption) ?_)) | omega | (simp; done) | (simp; omega))); done)); rintro e ws ⟨rfl, hbS⟩; have hCS : Below wc8.heap.size wc8 ws := (by exact tacT); have hzS : wc8.heap.size ≤ ws.heap.size := hCS.size) | (refine step_appHE ?_ _ _ 41 rfl wc8.heap.size 3 (.int .i64 0) 1 8 Tryz.underlying41 infoI rfl (Nat.le_of_ble_eq_true rfl) _ rfl ?_ Br7 mf.length nr7 (ints mf) rfl ?_ (ints_one mf) ?_ ?_ ?_ ?_; (focus (first | rfl | (simp [Region.wanted, yielded]; done))); (focus ((repeat' (first | (with_reducible assumption) | (refine ownEmpty' _ _ _ _ _ ?_ ?_; (focus (simp; done)); (focus (first | omega | (simp; done) | (simp; omega)))) | (with_reducible refine World.ownsRow.alloc ?_ _) | (with_reducible refine World.ownsRow.drew ?_))); done)); (focus (refine Rd.below' HN8.out.2.1 ?_; (repeat' (first | (with_reducible exact Below.refl _ _) | (with_reducible assumption) | (with_reducible refine Below.alloc ?_ ?_ _) | (with_reducible refine Below.setCell ?_ ?_ _) | (with_reducible refine Below.drew ?_) | (with_reducible refine below_drewN ?_ _) | (refine Below.trans ?_ (Below.mono (by with_reducible assumption) ?_)) | omega | (simp; done) | (simp; omega))); done)); (focus omega); (focus omega); (focus (first | omega | (simp; done) | (simp; omega))); intro Aa ca wa hoa hga; have hCa : Below wc8.heap.size wc8 wa := Below.grown (by exact tacT) hga (by exact ooT) (fun j hj => by have h9 := Option.some.inj hj; first | omega | (simp at h9; omega)); have hza : wc8.heap.size ≤ wa.heap.size := hCa.size; clear hga) | (refine step_appHA ?_ _ _ 41 rfl wc8.heap.size 3 (.int .i64 0) 1 8 Tryz.underlying41 infoI rfl (Nat.le_of_ble_eq_true rfl) (.slice Aa mf.length ca) mf.length (ints mf) rfl ?_ Br8 mg.length nr8 (ints mg) rfl ?_ (ints_one mg) ?_ ?_ ?_ ?_; (focus (first | rfl | (simp [Region.wanted, yielded]; done))); (focus ((repeat' (first | (with_reducible assumption) | (refine ownEmpty' _ _ _ _ _ ?_ ?_; (focus (simp; done)); (focus (first | omega | (simp; done) | (simp; omega)))) | (with_reducible refine World.ownsRow.alloc ?_ _) | (with_reducible refine World.ownsRow.drew ?_))); done)); (focus (refine Rd.below' HN8.out.2.2 ?_; (repeat' (first | (with_reducible exact Below.refl _ _) | (with_reducible assumption) | (with_reducible refine Below.alloc ?_ ?_ _) | (with_reducible refine Below.setCell ?_ ?_ _) | (with_reducible refine Below.drew ?_) | (with_reducible refine below_drewN ?_ _) | (refine Below.trans ?_ (Below.mono (by with_reducible assumption) ?_)) | omega | (simp; done) | (simp; omega))); done)); (focus omega); (focus omega); (focus (first | omega | (simp; done) | (simp; omega))); intro Ab cb wb hob hgb; have hCb : Below wc8.heap.size wc8 wb := Below.grown (by exact tacT) hgb (by exact ooT) (fun j hj => (hoa.lt j hj).1); have hzb : wc8.heap.size ≤ wb.heap.size := hCb.size; clear hgb) | (go_at_call 20; refine (HSI.out _ _ _ ?_ ?_).mono ?_; (focus ((repeat' (first | (with_reducible exact Below.refl _ _) | (with_reducible assumption) | (with_reducible refine Below.alloc ?_ ?_ _) | (with_reducible refine Below.setCell ?_ ?_ _) | (with_reducible refine Below.drew ?_) | (with_reducible refine below_drewN ?_ _) | (refine Below.trans ?_ (Below.mono (by with_reducible assumption) ?_)) | omega | (simp; done) | (simp; omega))); done)); (focus (first | exact Rd.of_own hob | exact Rd.below' (Rd.of_own hob) (by exact tacT))); rintro e wi ⟨rfl, hbI⟩; have hCI : Below wc8.heap.size wc8 wi := (by exact tacT))))
 all_goals
  go_wp2_with fail
  go_ret
  exact ⟨rfl, HB0.out.trans ((HBE.out.trans (hCI.mono HBE.out.size)).mono HB0.out.size)⟩
theorem tab_of_FnActParts {W : World} (h : laidMetH Tryz.prog [("math/bits.deBruijn32tab", Rows.laid_math_bits_deBruijn32tab), ("math/bits.deBruijn64tab", Rows.laid_math_bits_deBruijn64tab), ("internal/strconv.uint64pow10", Rows.laid_internal_strconv_uint64pow10)] W) : Tab W := by
 rw [MakeChecks.laidMetH_plain _ _ _ (by kernel_rfl)] at h
 exact Lib.tabIs_of_head (g := 1) (t := 158) (e := 147) (n := 20) (by kernel_rfl) (by kernel_rfl) Tryz.underlying158 Tryz.underlying147 (by kernel_rfl) (by kernel_rfl) ((h).tail).tail
theorem door_met_FnActParts (os : Os) (args : Array Value) : laidMetH Tryz.prog [("math/bits.deBruijn32tab", Rows.laid_math_bits_deBruijn32tab), ("math/bits.deBruijn64tab", Rows.laid_math_bits_deBruijn64tab), ("internal/strconv.uint64pow10", Rows.laid_internal_strconv_uint64pow10)] ((World.doorLaid Tryz.prog 24 os).forCall (fun _ _ => 0) ⟨#[], args, []⟩).memory :=
 laidMetH_of_parts3 (fuel := 8) (laidMet_of_run' 8 (by kernel_rfl) (by kernel_rfl)) (by kernel_rfl) (by kernel_rfl)
set_option maxRecDepth 100000 in
theorem lifted_FnActParts (os : Os) (started : os.Started) (H : Type) (enc : TypeId × Value → H) :
  ReturnsInHanded {} Tryz.checked os 5 .any (fun w args => (Rows.fnActPartsSpec.pre enc Tryz.prog Tryz.f5 [] false w args ∧ laidMetH Tryz.prog [("math/bits.deBruijn32tab", Rows.laid_math_bits_deBruijn32tab), ("math/bits.deBruijn64tab", Rows.laid_math_bits_deBruijn64tab), ("internal/strconv.uint64pow10", Rows.laid_internal_strconv_uint64pow10)] w) ∧ sizedMet enc Tryz.prog Tryz.f5 (OpenSpec.ofChange Rows.fnActPartsSpec) false w args) (Rows.fnActPartsSpec.post enc Tryz.prog Tryz.f5 false true false false) := by
 refine returnsInHanded_of_change_and (C := Tryz.checked) (X := fun w _ => laidMetH Tryz.prog [("math/bits.deBruijn32tab", Rows.laid_math_bits_deBruijn32tab), ("math/bits.deBruijn64tab", Rows.laid_math_bits_deBruijn64tab), ("internal/strconv.uint64pow10", Rows.laid_internal_strconv_uint64pow10)] w) (fun _ _ _ hh h => h.of_heap hh) own_knob started (by kernel_rfl) Tryz.func5
  (ChangeSpec.witness_shaped (enc := enc) (C := Tryz.checked) (os := os) (X := fun w _ => laidMetH Tryz.prog [("math/bits.deBruijn32tab", Rows.laid_math_bits_deBruijn32tab), ("math/bits.deBruijn64tab", Rows.laid_math_bits_deBruijn64tab), ("internal/strconv.uint64pow10", Rows.laid_internal_strconv_uint64pow10)] w) false (World.doorLaid Tryz.prog 24 os) #[.slice none 0 0] 8 rfl (World.shaped_of_RefB (by kernel_rfl) (by kernel_rfl)) (by kernel_rfl) (by kernel_rfl) (by kernel_rfl) (door_met_FnActParts os _)) ?_
 intro W base args ds gs before hval0 hW _ _ hL _
 have ht := tab_of_FnActParts hL
 have hval : ∀ (j : Nat) t v, Tryz.f5.params[j]? = some t → args[j]? = some v → Value.okWide Tryz.prog W .any base t v := hval0
 have hW' := hW
 obtain ⟨p, q, hA0, hV, rfl, hfz, hnd⟩ := hW
 have hA : DataW.TrodAll enc Tryz.prog W 0 (fun _ => true) true Tryz.f5.params.toList args.toList ds p := hA0
 rw [Tryz.params5] at hA hval
 obtain ⟨v0, vs0, d0, ds0, p0, q0, hargs, rfl, rfl, h0, r0⟩ := trodAll_cons hA
 obtain ⟨rfl, rfl, rfl⟩ := trodAll_nil r0
 obtain rfl : args = #[v0] := by cases args; simp_all
 obtain ⟨rfl, rfl⟩ := trodVars_none hV
 obtain ⟨A0, c0, l0, rfl, hr0⟩ := arg_bytes (hval 0 28 v0 rfl rfl) h0
 have lt0 : ∀ x ∈ p0, x.block < W.heap.size := by obtain ⟨m, hm⟩ := h0; exact DataW.trod_lt m _ _ _ hm
 clear hA0 hval0
 refine (walk_FnActParts W ht A0 c0 l0 hr0).mono fun e W' ⟨he, bel⟩ => ?_
 subst he
 exact ⟨_, rfl, _, _, _, [], _, [], hW', trodAll_mk1 (shut_bool Tryz.underlying4 _), (trodAll_cons_mk (Below.trod laid_out (by kernel_rfl) (of_decide_eq_true (by kernel_rfl)) h0 bel lt0) trodAll_mk0), rfl, bel.frame _, fun h => by cases h⟩

theorem fnActParts_row : Rows.FnActPartsSaid :=
 OpenClaim.holds_of_wide 5 Tryz.f5 rfl rfl rfl rfl rfl rfl rfl ⟨rfl, rfl, rfl, rfl, rfl⟩ rfl rfl rfl rfl rfl (by kernel_rfl) Tryz.func5 (by kernel_rfl)
  (of_decide_eq_true (by kernel_rfl)) (by unfold Func.isWrapper; rw [if_neg (by decide +kernel)]; exact ⟨rfl, rfl⟩)
  (fun os started H enc _ => lifted_FnActParts os started H enc)

theorem fnActParts_holds : Rows.FnActPartsCardSaid :=
 Claim7.holds_tied_plain_at .later [] [.data, .data, .data] true (true, "0dd05cc1e6977aca7bd5b1880339633280beee239cbde02fd64f7edbc905c742") false
  fnActParts_row (fun _ h => by cases h) (by kernel_rfl) (fun _ h => by cases h) fnActParts_row_tie rfl ⟨rfl, rfl⟩ (by kernel_rfl) rfl
  (fun f fn hf hfn => by
   obtain rfl : f = 5 := Option.some.inj ((show Tryz.prog.funcNamed "loop.example/g03307/laws.FnActParts" = some 5 by kernel_rfl).symm.trans hf) |>.symm
   obtain rfl : fn = Tryz.f5 := (Option.some.inj (Tryz.func5.symm.trans hfn)).symm
   exact ⟨by kernel_rfl, fun j t ht => by
    rw [Tryz.params5] at ht
    have hm : t ∈ [28] := by simpa using Array.mem_of_getElem? ht
    have hall : ([28].all fun u => !Tryz.prog.wantsStandIn u) = true := by kernel_rfl
    exact (show Tryz.prog.wantsStandIn t = false by simpa using List.all_eq_true.1 hall t hm)⟩)
  (by kernel_rfl)
end
end Go.Proofs.YtpmmjhpmheooeaaGreatDoor
