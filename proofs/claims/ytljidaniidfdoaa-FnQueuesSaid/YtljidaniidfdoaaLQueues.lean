/- The law FnQueues answers true for every code. No conditions. -/
import Derived.Test.YtljidaniidfdoaaQueuesPure
import Derived.Test.YtljidaniidfdoaaQueueDraw
import Derived.Test.YtljidaniidfdoaaOpenBytes
import Derived.Test.YtljidaniidfdoaaNew
import Derived.Test.YtljidaniidfdoaaApp
import Derived.Test.YtljidaniidfdoaaRow
import Derived.Test.YtljidaniidfdoaaTwo
import Derived.Test.YtljidaniidfdoaaLast2
import Derived.Test.YtljidaniidfdoaaSwap
import Derived.Deep.RegionHeld3
import Derived.BigRegion
import Derived.Deep.DeepCutAuto
namespace Go.Proofs.Ytljidaniidfdoaa
open Go.ChangeShapes Go.WideShapes Go.ChangeAt Go.RowKit
set_option maxRecDepth 20000
theorem load_step {t wl : List Int} {k : Nat} {x y : Int} (hx : t[k]? = some x) (hy : wl[k]? = some y) : loadK t wl 0 (k + 1) = loadK t wl 0 k + (if y = 0 then x else 0) ∧ loadK t wl 1 (k + 1) = loadK t wl 1 k + (if y = 1 then x else 0) ∧ allK t (k + 1) = allK t k + x ∧ mostK t (k + 1) = max (mostK t k) x := by
  have e1 : t.getD k 0 = x := by rw [List.getD_eq_getElem?_getD, hx]; rfl
  have e2 : wl.getD k 0 = y := by rw [List.getD_eq_getElem?_getD, hy]; rfl
  refine ⟨by rw [loadK_succ, e1, e2], by rw [loadK_succ, e1, e2], ?_, ?_⟩
  · show allK t k + t.getD k 0 = _; rw [e1]
  · show max (mostK t k) (t.getD k 0) = _; rw [e1]
theorem step_appG {P : Program} {w : World} {ops : Array Oper} {o : Oper} {a : Act} {K : Act → World → Prop} {Q : Exit → Act → World → Prop} {E : Prop} (hw : Region.wanted o (yielded ops a.tmps) = true) (s x : Operand) (t : TypeId)
    (ho : o.op = .call { callee := .builtin .append, args := #[s, x], argTypes := #[t, t] })
    (base : Nat) (e : TypeId) (z : Value) (size bytes : Nat) (ht : P.underlying t = some (.slice e)) (hinfo : (P.info? e).map (fun i => (i.zero, i.size, i.bytes)) = some (some z, size, bytes))
    (hzs : z.cells.size = size) (hsz : 0 < size)
    (v : Value) (n : Nat) (xs : List Value) (hs : a.eval s = v) (hown : w.ownsRow base e size v n xs)
    (B : Nat) (A : Option Addr) (m c : Nat) (news : List Value) (hx : a.eval x = .slice A m c) (hr : Rd w B size A m c news) (h1 : ∀ u ∈ news, u.oneCell' = true)
    (h63 : n + m ≤ 9223372036854775807) (hbytes : (n + m) * bytes ≤ 140737488355328) (hbase : base ≤ w.heap.size)
    (h : ∀ A' c' w', w'.ownsRow base e size (.slice A' (n + m) c') (n + m) (xs ++ news) → w.grownBy w' v.ownBlock → K (a.put o.dst (.slice A' (n + m) c')) w') : if Region.wanted o (yielded ops a.tmps) = true then Oper.wp P o a w K Q else E := by
  rw [if_pos hw]
  exact wp_appAll s x t ho base e z size bytes ht hinfo hzs hsz v n xs hs hown B A m c news hx hr h1 h63 hbytes hbase h
theorem Row2.own {w : World} {lo hi : Nat} {e : TypeId} {sz n c : Nat} {A : Option Addr} {xs : List Value} (h : Row2 w lo hi e sz A n c xs) : w.ownsRow lo e sz (.slice A n c) n xs := h.1
theorem rd_one0 (W : World) (t : TypeId) : Rd (W.alloc (.cells #[.int .i64 0] t)) (W.heap.size + 1) 1 (some ⟨W.heap.size, 0, none⟩) 1 1 [.int .i64 0] :=
  ⟨rfl, Nat.le_refl _, by omega, fun _ => ⟨W.heap.size, 0, rfl, by omega, fun j u hu => by
    match j, hu with
    | 0, hu => simp at hu; subst hu; exact cell_new1 W _ t⟩⟩
set_option maxHeartbeats 12800000 in
theorem walk_FnQueues (w0 : World) (A0 : Option Addr) (c0 : Nat) (l0 : List Int) (h0 : RdY w0 w0.heap.size A0 c0 l0) :
    Calls Try.prog 3 #[.slice A0 l0.length c0] w0 fun e w' => e = .returned (.bool true) ∧ Below w0.heap.size w0 w' := by
  obtain ⟨hl0, hm0⟩ := h0.le
  by_cases hbig : (1048576 : Int) < l0.length
  · go_enter Try.func3, Try.ntmps3
    go_wp2_with fail
    refine (big_any A0 l0.length c0 w0 (by omega)).mono ?_
    rintro e w1 ⟨rfl, rfl⟩
    go_wp2_with fail
    go_ret
    exact ⟨rfl, Below.refl _ _⟩
  have hs : l0.length ≤ 1048576 := by omega
  have hbd : decide ((1048576 : Int) < l0.length) = false := by simpa using hbig
  go_enter Try.func3, Try.ntmps3
  go_wp2_with fail
  refine (big_any A0 l0.length c0 w0 (by omega)).mono ?_
  rintro e w1 ⟨rfl, rfl⟩
  rw [hbd]
  go_wp2_with fail
  refine (DrawQueue_any A0 c0 l0 w0 h0 hs).mono ?_
  rintro e w ⟨A, c, t, rfl, hr, hall, hlen, hB00⟩
  have HB0 := Lib.hid hB00
  clear hB00
  have hpos : ∀ x ∈ t, 0 ≤ x := fun x hx => by have := inB_iff.1 (List.all_eq_true.1 hall x hx); omega
  have hq : queueOk t = true := by
    unfold queueOk
    have : allIn t 1 100 = true := by
      unfold allIn
      rw [List.all_eq_true]
      intro x hx
      have := inB_iff.1 (List.all_eq_true.1 hall x hx)
      exact inB_iff.2 (by omega)
    rw [this, decide_eq_true (show t.length ≤ 12 by omega)]; rfl
  have hrW : Hid (∀ W, Below w.heap.size w W → RdI W W.heap.size A c t) := fun W hb => RdI.below hr hb
  obtain ⟨o, ho9⟩ : ∃ o, o = bestQueue t := ⟨_, rfl⟩
  have hol : o.length = t.length := by rw [ho9]; exact bestQueue_length hq
  obtain ⟨wl, en, hTW, hwlen, hw01, hen, hq1, hq2, hq3, hq4, hq5⟩ := two_law hq
  have hosw := fun (hl : 1 < t.length) => own_swap hq hpos hl
  have ht7 : t.length ≤ 7 := hlen
  have htb : ∀ i : Nat, 0 ≤ t.getD i 0 ∧ t.getD i 0 ≤ 100 := fun i => by
    rw [List.getD_eq_getElem?_getD]
    cases hi : t[i]? with
    | none => simp
    | some x =>
      have := inB_iff.1 (List.all_eq_true.1 hall x (List.mem_of_getElem? hi))
      simp only [Option.getD_some]; omega
  obtain ⟨ld, hld⟩ : ∃ ld, ld = lastDone t := ⟨_, rfl⟩
  rw [← hld] at hq1 hq2 hq3
  have hbw := best_wait hq hpos
  rw [← ho9] at hbw
  have hsw := fun k (hk : k + 1 < (bestQueue t).length) => best_swap hq hpos hk
  rw [← ho9] at hsw
  have HOB : Hid (∀ W, Below w.heap.size w W → Calls Try.prog 10 #[.slice A t.length c] W fun e w' => ∃ A' c', e = .returned (.slice A' o.length c') ∧ OwnI w' W.heap.size A' c' o ∧ Below W.heap.size W w') := fun W hb => by rw [ho9]; exact BestQueue_any A c t W (hrW.out W hb)
  obtain ⟨n, hn9⟩ : ∃ n, n = waitOf t o := ⟨_, rfl⟩
  rw [← hn9] at hbw
  have HTW : Hid (∀ W, Below w.heap.size w W → Calls Try.prog 13 #[.slice A t.length c] W fun e w' => ∃ A' c', e = .returned (.tuple #[.slice A' wl.length c', .int .i64 en]) ∧ OwnI w' W.heap.size A' c' wl ∧ Below W.heap.size W w') := fun W hb => by
    have h9 := TwoWells_any A c t W (hrW.out W hb)
    rw [hTW] at h9
    exact h9
  have HLD : Hid (∀ W, Below w.heap.size w W → Calls Try.prog 14 #[.slice A t.length c] W fun e w' => e = .returned (.int .i64 ld) ∧ Below W.heap.size W w') := fun W hb => by rw [hld]; exact LastDone_any A c t W (hrW.out W hb)
  have HQK : Hid (∀ W, Below w.heap.size w W → Calls Try.prog 15 #[.slice A t.length c] W fun e w' => e = .returned (.bool true) ∧ W = w') := fun W hb => by rw [← hq]; exact QueueOk_any A c t W (hrW.out W hb)
  have HSS : Hid (∀ (W : World) (Bm : Option Addr) (dm : Nat) (m : List Int) (k : Int), Below w.heap.size w W → RdI W W.heap.size Bm dm m → m.length ≤ 1048576 → Calls Try.prog 12 #[.slice A t.length c, .slice Bm m.length dm, .int .i64 k] W fun e w' => e = .returned (.int .i64 (swapSaves t m k)) ∧ Below W.heap.size W w') := fun W Bm dm m k hb hr' hm => SwapSaves_any A c t Bm dm m k W (hrW.out W hb) hr' hm
  have HOS : Hid (1 < t.length → swapSaves t (upto t.length) 0 = t.getD 0 0 - t.getD 1 0) := hosw
  have HTB := Lib.hid htb
  have HW01 := Lib.hid hw01
  have HWL := Lib.hid hwlen
  have HFIN : Hid (en = max (loadK t wl 0 t.length) (loadK t wl 1 t.length) ∧ ld ≤ en ∧ allK t t.length ≤ 2 * ld ∧ mostK t t.length ≤ ld ∧ en ≤ allK t t.length ∧ 2 * en ≤ allK t t.length + mostK t t.length) := ⟨hen, hq1, hq2, hq3, hq4, hq5⟩
  have HBD : Hid (∀ k, (0 ≤ loadK t wl 0 k ∧ loadK t wl 0 k ≤ 100 * k) ∧ (0 ≤ loadK t wl 1 k ∧ loadK t wl 1 k ≤ 100 * k) ∧ loadK t wl 0 k + loadK t wl 1 k = allK t k ∧ 0 ≤ mostK t k ∧ mostK t k ≤ 100) := fun k => ⟨load_nonneg t wl 0 htb k, load_nonneg t wl 1 htb k, load_all t wl hw01 k, mostK_nonneg t k, mostK_bd t (fun i => (htb i).2) k⟩
  have HWM : Hid (∀ (W : World) (Bm : Option Addr) (dm : Nat), Below w.heap.size w W → Rd W W.heap.size 1 Bm (t.length + 1) dm (ints (upto t.length) ++ [.int .i64 0]) → Calls Try.prog 11 #[.slice A t.length c, .slice Bm (t.length + 1) dm] W fun e w' => e = .returned (.int .i64 (-1)) ∧ Below W.heap.size W w') := fun W Bm dm hb hr' => by
    have hlm : (upto t.length ++ [(0 : Int)]).length = t.length + 1 := by rw [List.length_append, upto_len]; rfl
    have h9 := WaitOf_any A c t Bm dm (upto t.length ++ [0]) W (hrW.out W hb) (by unfold RdI; rw [hlm]; unfold ints; rw [List.map_append]; exact hr')
    rw [wait_more hlm, hlm] at h9
    exact h9
  clear hTW hwlen hw01 hen hq1 hq2 hq3 hq4 hq5 hosw htb hld
  have HQ := Lib.hid hq
  have HSW := Lib.hid hsw
  have HN := Lib.hid hn9
  have HP := Lib.hid hpos
  have n0 := hbw.1
  have HOWN : Hid (n ≤ waitOf t (upto t.length)) := hbw.2
  have HOL := Lib.hid hol
  clear hall ho9 hbw hsw hn9 hq hpos hr hol hlen
  have hB := Below.refl w.heap.size w
  go_wp2_with fail
  refine (HOB.out _ hB).mono ?_
  rintro e w1 ⟨B, d, rfl, ho, hb⟩
  have hro := Lib.hid ho.rd
  replace hB := hB.trans (hb.mono hB.size)
  clear ho hb
  have hWW : Hid (∀ (W : World) (Bm : Option Addr) (dm : Nat) (m : List Int), Below w.heap.size w W → RdI W W.heap.size Bm dm m → Calls Try.prog 11 #[.slice A t.length c, .slice Bm m.length dm] W fun e w' => e = .returned (.int .i64 (waitOf t m)) ∧ Below W.heap.size W w') := fun W Bm dm m hb hr' => WaitOf_any A c t Bm dm m W (hrW.out W hb) hr'
  go_wp2_with fail
  refine (hWW.out _ _ _ _ hB hro.out).mono ?_
  rw [← HN.out]
  rintro e w2 ⟨rfl, hb⟩
  have hro2 := Lib.hid (RdI.below hro.out hb)
  replace hB := hB.trans (hb.mono hB.size)
  clear hro hb
  have e1 : ((o.length : Int) != (t.length : Int)) = false := by rw [HOL.out]; simp
  have e2 : ¬ n < 0 := by omega
  have e3 : decide (n < 0) = false := decide_eq_false e2
  have ho7 : o.length ≤ 7 := by have := HOL.out; omega
  have HB2 := Lib.hid hB
  clear hB
  go_wp2_with fail
  go_loopw [6] (fun i wr => ∃ k : Nat, k ≤ o.length ∧ i = .int .i64 k ∧ Hid (Below w.heap.size w wr) ∧ Hid (RdI wr wr.heap.size B d o)) (fun i _ => o.length - (intOf i).toNat)
  case atStart => exact ⟨0, Nat.zero_le _, rfl, HB2.out, hro2.out⟩
  case round =>
    clear HB2 hro2
    obtain ⟨k, hk, rfl, HBW, HRO⟩ := hrel
    have hw1 : IntKind.i64.wrap ((k : Int) + 1) = (k : Int) + 1 := IntWalk.i64_in _ (by omega)
    by_cases hlt : k + 1 < o.length
    · have hki : (k : Int) + 1 < (o.length : Int) := by omega
      have hle := HSW.out k hlt
      obtain ⟨sv, hsv⟩ : ∃ sv, sv = swapSaves t o k := ⟨_, rfl⟩
      have HC : Hid (∀ W, Below w.heap.size w W → RdI W W.heap.size B d o → Calls Try.prog 12 #[.slice A t.length c, .slice B o.length d, .int .i64 k] W fun e w' => e = .returned (.int .i64 sv) ∧ Below W.heap.size W w') := fun W hb hr' => by rw [hsv]; exact HSS.out W B d o k hb hr' (by omega)
      rw [← hsv] at hle
      clear hsv
      have hng : ¬ 0 < sv := by omega
      go_wp2_with fail
      refine (HC.out _ HBW.out HRO.out).mono ?_
      rintro e w3 ⟨rfl, hb⟩
      have HB3 := Lib.hid (HBW.out.trans (hb.mono HBW.out.size))
      have HR3 := Lib.hid (RdI.below HRO.out hb)
      clear hb
      go_wp2_with fail
      go_roundw
      case rel => exact ⟨k + 1, by omega, by go_num, HB3.out, HR3.out⟩
      case measure => simp [intOf]; omega
    · have hki : ¬ (k : Int) + 1 < (o.length : Int) := by omega
      have hB := HBW.out
      have hBs := hB.size
      have HO1 : Hid (OwnI (wr.alloc (.cells #[] 3)) wr.heap.size (some ⟨wr.heap.size, 0, none⟩) 0 (upto 0) ∧ Below w.heap.size w (wr.alloc (.cells #[] 3))) := ⟨(show OwnI _ _ _ _ ([] : List Int) from ownEmpty _ _ _ _ (Nat.le_refl _)), hB.alloc hBs _⟩
      obtain ⟨wq, rfl⟩ : ∃ wq : World, wq = wr := ⟨_, rfl⟩
      clear HBW HRO hB
      go_wp2_with fail
      clear hlt hki hw1 hk
      go_loopw [7, 8] (fun v i wr => ∃ (k : Nat) (A' : Option Addr) (c' : Nat), k ≤ t.length ∧ i = .int .i64 k ∧ v = .slice A' k c' ∧ wq.heap.size ≤ wr.heap.size ∧ Hid (OwnI wr wq.heap.size A' c' (upto k) ∧ Below w.heap.size w wr)) (fun _ i _ => t.length - (intOf i).toNat)
      case atStart => exact ⟨0, _, 0, Nat.zero_le _, rfl, rfl, by simp, HO1.out⟩
      case round =>
        clear HO1
        obtain ⟨k, A', c', hk, rfl, rfl, hbq, HO⟩ := hrel
        have hul : (upto k).length = k := upto_len k
        by_cases hlt : k < t.length
        · have hki : (k : Int) < (t.length : Int) := by omega
          have hus : Hid (upto (k + 1) = upto k ++ [(k : Int)]) := upto_succ k
          have hbs := HO.out.2.size
          have ho1 : OwnI (wr.alloc (.cells #[.int .i64 k] 3)) wq.heap.size A' c' (upto k) := HO.out.1.alloc _
          go_wp2_with (at_builtin; refine wpList_app1 rfl _ _ rfl wq.heap.size A' c' (upto k) (by rw [hul]; rfl) ho1 wr.heap.size k rfl (cell_new1 _ _ _) (by omega) (by first | omega | (simp; omega)) ?_)
          intro A2 c2 w2 ho2 hg2
          have hb2 := below_grown_own (HO.out.2.alloc hbs (.cells #[.int .i64 k] 3)) ho1 (by rw [hul]; exact hg2) (by omega) (by first | omega | (simp; omega))
          rw [← hus.out] at ho2
          have H3 := Lib.hid (And.intro ho2 hb2)
          have hg9 : wq.heap.size ≤ w2.heap.size := by have h8 : wr.heap.size + 1 ≤ w2.heap.size := (by simpa using hg2.size); omega
          try rw [hul]
          clear ho2 hb2 hg2 ho1
          go_wp2_with fail
          go_roundw
          case rel => exact ⟨k + 1, A2, c2, by omega, by go_num, rfl, hg9, H3.out⟩
          case measure => simp [intOf]; omega
        · obtain rfl : k = t.length := by omega
          have hkl : ¬ ((t.length : Nat) : Int) < (t.length : Int) := by omega
          have hB := HO.out.2
          have hBs := hB.size
          have hr_o : Row2 wr wq.heap.size wr.heap.size 3 1 A' t.length c' (ints (upto t.length)) := by
            have := HO.out.1.row2
            rwa [upto_len] at this
          obtain ⟨wv, hwv⟩ : ∃ wv, wv = waitOf t (upto t.length) := ⟨_, rfl⟩
          have hnw := HOWN.out
          rw [← hwv] at hnw
          have HC1 : Hid (∀ W, Below w.heap.size w W → Rd W W.heap.size 1 A' t.length c' (ints (upto t.length)) → Calls Try.prog 11 #[.slice A t.length c, .slice A' t.length c'] W fun e w' => e = .returned (.int .i64 wv) ∧ Below W.heap.size W w') := fun W hb hr' => by
            have h9 := hWW.out W A' c' (upto t.length) hb (by unfold RdI; rw [upto_len]; exact hr')
            rw [upto_len, ← hwv] at h9
            exact h9
          have HC2 : Hid (1 < t.length → ∀ W, Below w.heap.size w W → Rd W W.heap.size 1 A' t.length c' (ints (upto t.length)) → Calls Try.prog 12 #[.slice A t.length c, .slice A' t.length c', .int .i64 0] W fun e w' => e = .returned (.int .i64 (t.getD 0 0 - t.getD 1 0)) ∧ Below W.heap.size W w') := fun h1 W hb hr' => by
            have h9 := HSS.out W A' c' (upto t.length) 0 hb (by unfold RdI; rw [upto_len]; exact hr') (by rw [upto_len]; omega)
            rw [upto_len, HOS.out h1] at h9
            exact h9
          have c1 : ¬ wv < n := by omega
          have c2 : decide (wv < n) = false := decide_eq_false c1
          have HRT := Lib.hid (hrW.out w (Below.refl _ _))
          have HBB := Lib.hid hB
          clear hwv hnw HO hul hlt hk
          go_upto_region 18 with fail
          clear hkl
          go_cut [79] from 57 to 79 (fun s wx => s = .bool false ∧ Below wr.heap.size wr wx)
          case first =>
            by_cases g : 1 < t.length
            · obtain ⟨b, oo, x, rfl, hbb, hx, q0⟩ := HRT.out.at_ (k := 0) (by omega)
              obtain ⟨b2, o2, y, hA2, -, hy, q1⟩ := HRT.out.at_ (k := 1) g
              have hb2 : b = b2 ∧ oo = o2 := by simpa using hA2
              obtain ⟨rfl, rfl⟩ := hb2
              clear hA2
              have hx0 : t.getD 0 0 = x := by rw [List.getD_eq_getElem?_getD, hx]; rfl
              have hy0 : t.getD 1 0 = y := by rw [List.getD_eq_getElem?_getD, hy]; rfl
              have xb := HTB.out 0
              have yb := HTB.out 1
              have HC3 := Lib.hid (HC2.out g)
              rw [hx0, hy0] at HC3
              rw [hx0] at xb
              rw [hy0] at yb
              have g1 : (1 : Int) < (t.length : Int) := by omega
              have g2 : decide ((1 : Int) < (t.length : Int)) = true := decide_eq_true g1
              have hw : IntKind.i64.wrap (x - y) = x - y := IntWalk.i64_in _ (by omega)
              have f0 : ∀ z : NewW wr, z.w.cell? ⟨b, oo, none⟩ = some (.int .i64 x) := fun z => (Below.cell (HBB.out.trans (Below.mono (NewW.h z) HBB.out.size)) (p := ⟨b, _, none⟩) hbb).trans (by simpa using q0)
              have f1 : ∀ z : NewW wr, z.w.cell? ⟨b, oo + 1, none⟩ = some (.int .i64 y) := fun z => (Below.cell (HBB.out.trans (Below.mono (NewW.h z) HBB.out.size)) (p := ⟨b, _, none⟩) hbb).trans q1
              have HRO := Lib.hid hr_o.rd
              clear hx hy q0 q1 hx0 hy0 hr_o hB
              refine wp_region_new (by kernel_rfl) (by kernel_rfl) ?_
              repeat (go_big_quiet_step (first | (go_at_call 11; exact NewW.call (HC1.out _ (HBB.out.trans (Below.mono (NewW.h _) HBB.out.size)) (Rd.newW HRO.out _))) | (go_at_call 12; exact NewW.call (HC3.out _ (HBB.out.trans (Below.mono (NewW.h _) HBB.out.size)) (Rd.newW HRO.out _)))))
              refine wpQuiet_nil ?_
              intro w4 hw'
              obtain ⟨hx, hw''⟩ := hw'
              have hb4 := hx.h
              rw [← hw''] at hb4
              clear hw'' hx
              go_wp2_with fail
              go_meet
              exact ⟨rfl, hb4⟩
            · have g1 : ¬ (1 : Int) < (t.length : Int) := by omega
              have g2 : decide ((1 : Int) < (t.length : Int)) = false := decide_eq_false g1
              have HRO := Lib.hid hr_o.rd
              clear hr_o hB
              refine wp_region_new (by kernel_rfl) (by kernel_rfl) ?_
              repeat (go_big_quiet_step (first | (go_at_call 11; exact NewW.call (HC1.out _ (HBB.out.trans (Below.mono (NewW.h _) HBB.out.size)) (Rd.newW HRO.out _)))))
              refine wpQuiet_nil ?_
              intro w4 hw'
              obtain ⟨hx, hw''⟩ := hw'
              have hb4 := hx.h
              rw [← hw''] at hb4
              clear hw'' hx
              go_wp2_with fail
              go_meet
              exact ⟨rfl, hb4⟩
          case rest =>
            obtain ⟨rfl, hb⟩ := hcut
            obtain ⟨wA, rfl⟩ : ∃ wA : World, wA = wc := ⟨_, rfl⟩
            obtain ⟨wp, rfl⟩ : ∃ wp : World, wp = wr := ⟨_, rfl⟩
            replace hr_o := Row2.below hr_o hb (Nat.le_refl _)
            replace hB := hB.trans (Below.mono hb hBs)
            have hzA : wp.heap.size ≤ wA.heap.size := Below.size hb
            clear hb HBB HC1 HC2 HOS HOWN c1 c2
            go_wp2_with fail
            refine (HTW.out _ hB).mono ?_
            rintro e w10 ⟨A10, c10, rfl, ho10, hb⟩
            have hr_w : Row2 w10 wA.heap.size w10.heap.size 3 1 A10 wl.length c10 (ints wl) := ho10.row2
            replace hr_o := Row2.below hr_o hb (by omega)
            replace hB := hB.trans (Below.mono hb hB.size)
            have hz10 := hb.size
            clear hb ho10
            go_wp2_with fail
            refine (HLD.out _ hB).mono ?_
            rintro e w11 ⟨rfl, hb⟩
            replace hr_w := Row2.below hr_w hb (Nat.le_refl _)
            replace hr_o := Row2.below hr_o hb (by omega)
            replace hB := hB.trans (Below.mono hb hB.size)
            have hz11 := hb.size
            have hBs11 := hB.size
            have e4 : ((wl.length : Int) != (t.length : Int)) = false := by rw [HWL.out]; simp
            have H0 : Hid (Blk (w11.alloc (.cells #[.int .i64 0, .int .i64 0] 3)) w11.heap.size 3 #[.int .i64 0, .int .i64 0] ∧ Row2 (w11.alloc (.cells #[.int .i64 0, .int .i64 0] 3)) wA.heap.size w10.heap.size 3 1 A10 wl.length c10 (ints wl) ∧ Row2 (w11.alloc (.cells #[.int .i64 0, .int .i64 0] 3)) wq.heap.size wp.heap.size 3 1 A' t.length c' (ints (upto t.length)) ∧ Below w.heap.size w (w11.alloc (.cells #[.int .i64 0, .int .i64 0] 3)) ∧ w11.heap.size < (w11.alloc (.cells #[.int .i64 0, .int .i64 0] 3)).heap.size) :=
              ⟨Blk.new _ _ _, hr_w.alloc _, hr_o.alloc _, hB.alloc hBs11 _, by simp⟩
            have HS0 : Hid ((0 : Int) = allK t 0 ∧ (0 : Int) = mostK t 0 ∧ (0 : Int) = loadK t wl 0 0 ∧ (0 : Int) = loadK t wl 1 0) := ⟨rfl, rfl, rfl, rfl⟩
            clear hb hr_w hr_o hB
            go_wp2_with fail
            clear e4
            go_loopw [13, 14, 15] (fun sv mv i wx => ∃ (k : Nat) (s m q0 q1 : Int), k ≤ t.length ∧ i = .int .i64 k ∧ sv = .int .i64 s ∧ mv = .int .i64 m ∧ Hid (s = allK t k ∧ m = mostK t k ∧ q0 = loadK t wl 0 k ∧ q1 = loadK t wl 1 k) ∧ Hid (Blk wx w11.heap.size 3 #[.int .i64 q0, .int .i64 q1] ∧ Row2 wx wA.heap.size w10.heap.size 3 1 A10 wl.length c10 (ints wl) ∧ Row2 wx wq.heap.size wp.heap.size 3 1 A' t.length c' (ints (upto t.length)) ∧ Below w.heap.size w wx ∧ w11.heap.size < wx.heap.size)) (fun _ _ i _ => t.length - (intOf i).toNat)
            case atStart => exact ⟨0, 0, 0, 0, 0, Nat.zero_le _, rfl, rfl, rfl, HS0.out, H0.out⟩
            case round =>
              clear H0 HS0
              obtain ⟨k, s, m, q0, q1, hk, rfl, rfl, rfl, HS, HK⟩ := hrel
              have HB9 := Lib.hid HK.out.2.2.2.1
              have hLw := HK.out.2.2.2.2
              have kb_l := HK.out.1
              have hbd : (0 ≤ q0 ∧ q0 ≤ 700) ∧ (0 ≤ q1 ∧ q1 ≤ 700) ∧ (0 ≤ s ∧ s ≤ 1400) ∧ (0 ≤ m ∧ m ≤ 100) := by
                have h9 := HBD.out k
                rw [← HS.out.1, ← HS.out.2.1, ← HS.out.2.2.1, ← HS.out.2.2.2] at h9
                omega
              have c0 : wr.cell? ⟨w11.heap.size, 0, none⟩ = some (.int .i64 q0) := kb_l.cell 0
              have c1 : wr.cell? ⟨w11.heap.size, 1, none⟩ = some (.int .i64 q1) := kb_l.cell 1
              have z0 := kb_l.frozen 0
              have z1 := kb_l.frozen 1
              by_cases hlt : k < t.length
              · have hki : (k : Int) < (t.length : Int) := by omega
                have hkw : k < wl.length := by have := HWL.out; omega
                have hkw2 : (k : Int) < (wl.length : Int) := by omega
                have k0 : (0 : Int) ≤ (k : Int) := by omega
                obtain ⟨b, oo, x, rfl, hbb, hx, q9⟩ := HRT.out.at_ hlt
                obtain ⟨g2, rfl, hg1, hg2, -, ⟨y, q8, hy⟩, -, -⟩ := (show OwnI wr wA.heap.size A10 c10 wl from HK.out.2.1.1).set_ (k := k) hkw 0
                have hg3 : g2 < w10.heap.size := HK.out.2.1.2 g2 rfl
                have HST := Lib.hid (load_step hx hy)
                have y01 : y = 0 ∨ y = 1 := by have h9 := HW01.out k; rw [List.getD_eq_getElem?_getD, hy] at h9; exact h9
                have xb : 0 ≤ x ∧ x ≤ 100 := by have h9 := HTB.out k; rw [List.getD_eq_getElem?_getD, hx] at h9; exact h9
                have f_t : wr.cell? ⟨b, oo + k, none⟩ = some (.int .i64 x) := (HB9.out.cell (p := ⟨b, _, none⟩) hbb).trans q9
                have hwz : w.heap.size ≤ w11.heap.size := hBs11
                have hne : b ≠ w11.heap.size := by omega
                have hne2 : g2 ≠ w11.heap.size := by omega
                have hws : IntKind.i64.wrap (s + x) = s + x := IntWalk.i64_in _ (by omega)
                clear hx hy q9
                rcases y01 with rfl | rfl
                · have KSg : Blk (wr.setCell ⟨w11.heap.size, 0, none⟩ (.int .i64 (q0 + x))) w11.heap.size 3 #[.int .i64 (q0 + x), .int .i64 q1] := by simpa using kb_l.set_ 0 (.int .i64 (q0 + x))
                  have HKS := Lib.hid (And.intro KSg (And.intro HK.out.2.1 HK.out.2.2.1))
                  have hwq : IntKind.i64.wrap (q0 + x) = q0 + x := IntWalk.i64_in _ (by omega)
                  clear KSg HK kb_l
                  by_cases hmx : m < x
                  · have HN : Hid (s + x = allK t (k + 1) ∧ x = mostK t (k + 1) ∧ q0 + x = loadK t wl 0 (k + 1) ∧ q1 = loadK t wl 1 (k + 1)) := by
                      obtain ⟨e1, e2, e3, e4⟩ := HS.out
                      obtain ⟨h1, h2, h3, h4⟩ := HST.out
                      refine ⟨by rw [h3, e1], by rw [h4, ← e2]; omega, by rw [h1, ← e3]; simp, by rw [h2, ← e4]; simp⟩
                    clear HS HST
                    go_wp2_with fail
                    go_region
                    all_goals
                      go_wp2_with fail
                      go_roundw
                      case rel => exact ⟨k + 1, s + x, x, q0 + x, q1, by omega, by go_num, rfl, rfl, HN.out, (by repeat' (first | (with_reducible exact HKS.out.1) | (with_reducible refine Blk.drew ?_) | (with_reducible refine Blk.drewN ?_ _))), (by have hr_1 := HKS.out.2.1; repeat' (first | (with_reducible assumption) | (with_reducible refine Row2.far ?_ ?_ _) | (with_reducible refine Row2.alloc ?_ _) | (with_reducible refine Row2.drewN ?_ _) | (with_reducible refine Row2.drew ?_) | (left; dsimp only; omega) | (right; dsimp only; omega))), (by have hr_1 := HKS.out.2.2; repeat' (first | (with_reducible assumption) | (with_reducible refine Row2.far ?_ ?_ _) | (with_reducible refine Row2.alloc ?_ _) | (with_reducible refine Row2.drewN ?_ _) | (with_reducible refine Row2.drew ?_) | (left; dsimp only; omega) | (right; dsimp only; omega))), (by have hB := HB9.out; repeat' (first | (with_reducible exact Below.refl _ _) | (with_reducible assumption) | (with_reducible refine Below.alloc ?_ ?_ _) | (with_reducible refine Below.setCell ?_ ?_ _) | (with_reducible refine Below.drew ?_) | (with_reducible refine below_drewN ?_ _) | (refine Below.trans ?_ (Below.mono (by with_reducible assumption) ?_)) | omega | (simp; done) | (simp; omega))), (by first | exact hLw | (simp; omega))⟩
                      case measure => simp [intOf]; omega
                  · have HN : Hid (s + x = allK t (k + 1) ∧ m = mostK t (k + 1) ∧ q0 + x = loadK t wl 0 (k + 1) ∧ q1 = loadK t wl 1 (k + 1)) := by
                      obtain ⟨e1, e2, e3, e4⟩ := HS.out
                      obtain ⟨h1, h2, h3, h4⟩ := HST.out
                      refine ⟨by rw [h3, e1], by rw [h4, ← e2]; omega, by rw [h1, ← e3]; simp, by rw [h2, ← e4]; simp⟩
                    clear HS HST
                    go_wp2_with fail
                    go_region
                    all_goals
                      go_wp2_with fail
                      go_roundw
                      case rel => exact ⟨k + 1, s + x, m, q0 + x, q1, by omega, by go_num, rfl, rfl, HN.out, (by repeat' (first | (with_reducible exact HKS.out.1) | (with_reducible refine Blk.drew ?_) | (with_reducible refine Blk.drewN ?_ _))), (by have hr_1 := HKS.out.2.1; repeat' (first | (with_reducible assumption) | (with_reducible refine Row2.far ?_ ?_ _) | (with_reducible refine Row2.alloc ?_ _) | (with_reducible refine Row2.drewN ?_ _) | (with_reducible refine Row2.drew ?_) | (left; dsimp only; omega) | (right; dsimp only; omega))), (by have hr_1 := HKS.out.2.2; repeat' (first | (with_reducible assumption) | (with_reducible refine Row2.far ?_ ?_ _) | (with_reducible refine Row2.alloc ?_ _) | (with_reducible refine Row2.drewN ?_ _) | (with_reducible refine Row2.drew ?_) | (left; dsimp only; omega) | (right; dsimp only; omega))), (by have hB := HB9.out; repeat' (first | (with_reducible exact Below.refl _ _) | (with_reducible assumption) | (with_reducible refine Below.alloc ?_ ?_ _) | (with_reducible refine Below.setCell ?_ ?_ _) | (with_reducible refine Below.drew ?_) | (with_reducible refine below_drewN ?_ _) | (refine Below.trans ?_ (Below.mono (by with_reducible assumption) ?_)) | omega | (simp; done) | (simp; omega))), (by first | exact hLw | (simp; omega))⟩
                      case measure => simp [intOf]; omega
                · have KSg : Blk (wr.setCell ⟨w11.heap.size, 1, none⟩ (.int .i64 (q1 + x))) w11.heap.size 3 #[.int .i64 q0, .int .i64 (q1 + x)] := by simpa using kb_l.set_ 1 (.int .i64 (q1 + x))
                  have HKS := Lib.hid (And.intro KSg (And.intro HK.out.2.1 HK.out.2.2.1))
                  have hwq : IntKind.i64.wrap (q1 + x) = q1 + x := IntWalk.i64_in _ (by omega)
                  clear KSg HK kb_l
                  by_cases hmx : m < x
                  · have HN : Hid (s + x = allK t (k + 1) ∧ x = mostK t (k + 1) ∧ q0 = loadK t wl 0 (k + 1) ∧ q1 + x = loadK t wl 1 (k + 1)) := by
                      obtain ⟨e1, e2, e3, e4⟩ := HS.out
                      obtain ⟨h1, h2, h3, h4⟩ := HST.out
                      refine ⟨by rw [h3, e1], by rw [h4, ← e2]; omega, by rw [h1, ← e3]; simp, by rw [h2, ← e4]; simp⟩
                    clear HS HST
                    go_wp2_with fail
                    go_region
                    all_goals
                      go_wp2_with fail
                      go_roundw
                      case rel => exact ⟨k + 1, s + x, x, q0, q1 + x, by omega, by go_num, rfl, rfl, HN.out, (by repeat' (first | (with_reducible exact HKS.out.1) | (with_reducible refine Blk.drew ?_) | (with_reducible refine Blk.drewN ?_ _))), (by have hr_1 := HKS.out.2.1; repeat' (first | (with_reducible assumption) | (with_reducible refine Row2.far ?_ ?_ _) | (with_reducible refine Row2.alloc ?_ _) | (with_reducible refine Row2.drewN ?_ _) | (with_reducible refine Row2.drew ?_) | (left; dsimp only; omega) | (right; dsimp only; omega))), (by have hr_1 := HKS.out.2.2; repeat' (first | (with_reducible assumption) | (with_reducible refine Row2.far ?_ ?_ _) | (with_reducible refine Row2.alloc ?_ _) | (with_reducible refine Row2.drewN ?_ _) | (with_reducible refine Row2.drew ?_) | (left; dsimp only; omega) | (right; dsimp only; omega))), (by have hB := HB9.out; repeat' (first | (with_reducible exact Below.refl _ _) | (with_reducible assumption) | (with_reducible refine Below.alloc ?_ ?_ _) | (with_reducible refine Below.setCell ?_ ?_ _) | (with_reducible refine Below.drew ?_) | (with_reducible refine below_drewN ?_ _) | (refine Below.trans ?_ (Below.mono (by with_reducible assumption) ?_)) | omega | (simp; done) | (simp; omega))), (by first | exact hLw | (simp; omega))⟩
                      case measure => simp [intOf]; omega
                  · have HN : Hid (s + x = allK t (k + 1) ∧ m = mostK t (k + 1) ∧ q0 = loadK t wl 0 (k + 1) ∧ q1 + x = loadK t wl 1 (k + 1)) := by
                      obtain ⟨e1, e2, e3, e4⟩ := HS.out
                      obtain ⟨h1, h2, h3, h4⟩ := HST.out
                      refine ⟨by rw [h3, e1], by rw [h4, ← e2]; omega, by rw [h1, ← e3]; simp, by rw [h2, ← e4]; simp⟩
                    clear HS HST
                    go_wp2_with fail
                    go_region
                    all_goals
                      go_wp2_with fail
                      go_roundw
                      case rel => exact ⟨k + 1, s + x, m, q0, q1 + x, by omega, by go_num, rfl, rfl, HN.out, (by repeat' (first | (with_reducible exact HKS.out.1) | (with_reducible refine Blk.drew ?_) | (with_reducible refine Blk.drewN ?_ _))), (by have hr_1 := HKS.out.2.1; repeat' (first | (with_reducible assumption) | (with_reducible refine Row2.far ?_ ?_ _) | (with_reducible refine Row2.alloc ?_ _) | (with_reducible refine Row2.drewN ?_ _) | (with_reducible refine Row2.drew ?_) | (left; dsimp only; omega) | (right; dsimp only; omega))), (by have hr_1 := HKS.out.2.2; repeat' (first | (with_reducible assumption) | (with_reducible refine Row2.far ?_ ?_ _) | (with_reducible refine Row2.alloc ?_ _) | (with_reducible refine Row2.drewN ?_ _) | (with_reducible refine Row2.drew ?_) | (left; dsimp only; omega) | (right; dsimp only; omega))), (by have hB := HB9.out; repeat' (first | (with_reducible exact Below.refl _ _) | (with_reducible assumption) | (with_reducible refine Below.alloc ?_ ?_ _) | (with_reducible refine Below.setCell ?_ ?_ _) | (with_reducible refine Below.drew ?_) | (with_reducible refine below_drewN ?_ _) | (refine Below.trans ?_ (Below.mono (by with_reducible assumption) ?_)) | omega | (simp; done) | (simp; omega))), (by first | exact hLw | (simp; omega))⟩
                      case measure => simp [intOf]; omega
              · obtain rfl : k = t.length := by omega
                have hkl : ¬ ((t.length : Nat) : Int) < (t.length : Int) := by omega
                have hfin := HFIN.out
                rw [← HS.out.1, ← HS.out.2.1, ← HS.out.2.2.1, ← HS.out.2.2.2] at hfin
                have hr_o := HK.out.2.2.1
                have HRO := Lib.hid hr_o
                have hzp : wp.heap.size ≤ wr.heap.size := by omega
                clear HS HK
                by_cases hXY : q0 < q1
                · obtain rfl : en = q1 := by omega
                  have a1 : ld ≤ en := by omega
                  have a2 : s ≤ 2 * ld := by omega
                  have a3 : m ≤ ld := by omega
                  have a4 : en ≤ s := by omega
                  have a5 : 2 * en ≤ s + m := by omega
                  have d1 := decide_eq_true a1
                  have d2 := decide_eq_true a2
                  have d3 := decide_eq_true a3
                  have d4 := decide_eq_true a4
                  have d5 := decide_eq_true a5
                  have w1' : IntKind.i64.wrap (2 * ld) = 2 * ld := IntWalk.i64_in _ (by omega)
                  have w2' : IntKind.i64.wrap (2 * en) = 2 * en := IntWalk.i64_in _ (by omega)
                  have w3' : IntKind.i64.wrap (s + m) = s + m := IntWalk.i64_in _ (by omega)
                  clear hfin
                  go_upto_region 35 with fail
                  clear hkl
                  have hB := HB9.out
                  go_region_held3 (fun w' => w'.cell? ⟨w11.heap.size, 0, none⟩ = some (.int .i64 q0) ∧ w'.cell? ⟨w11.heap.size, 1, none⟩ = some (.int .i64 en)) (first | (with_reducible exact ⟨c0, c1⟩) | (refine ⟨?_, ?_⟩ <;> simp [go_sem, c0, c1, hLw]; done) | (with_reducible exact ⟨y14_0, y14_1⟩) | (with_reducible exact ⟨y15_0, y15_1⟩) | (refine ⟨?_, ?_⟩ <;> simp [go_sem, y14_0, y14_1]; done))
                    ((first | (go_at_call 15; refine (HQK.out _ ?_).mono ?_; (focus (repeat' (first | (with_reducible exact Below.refl _ _) | (with_reducible assumption) | (with_reducible refine Below.alloc ?_ ?_ _) | (with_reducible refine Below.setCell ?_ ?_ _) | (with_reducible refine Below.drew ?_) | (with_reducible refine below_drewN ?_ _) | (refine Below.trans ?_ (Below.mono (by with_reducible assumption) ?_)) | omega | (simp; done) | (simp; omega)))); rintro e w13 ⟨rfl, rfl⟩) | ((refine step_appG ?_ _ _ 24 rfl wq.heap.size 3 (.int .i64 0) 1 8 Try.underlying24 infoI rfl (Nat.le_of_ble_eq_true rfl) (.slice A' t.length c') t.length (ints (upto t.length)) rfl ?_ (wr.heap.size + 1) (some ⟨wr.heap.size, 0, none⟩) 1 1 [.int .i64 0] rfl ?_ (by decide) ?_ ?_ ?_ ?_); (focus (first | rfl | (simp [Region.wanted, yielded]; done))); (focus (refine Row2.own (lo := wq.heap.size) (hi := wp.heap.size) ?_; have hr_1 := HRO.out; (repeat' (first | (with_reducible assumption) | (with_reducible refine Row2.far ?_ ?_ _) | (with_reducible refine Row2.alloc ?_ _) | (with_reducible refine Row2.drewN ?_ _) | (with_reducible refine Row2.drew ?_) | (left; dsimp only; omega) | (right; dsimp only; omega))); done)); (focus (first | (with_reducible exact rd_one0 wr _) | exact rd_one0 wr _)); omega; omega; (focus (first | omega | (simp; omega))); intro A14 c14 w14 ho14 hg14; have hc14 := Row2.wrote (w := (wr.alloc (.cells #[.int .i64 0] 3)).drew) (Row2.drew (Row2.alloc HRO.out _)) hg14; have hs14 : wr.heap.size + 1 ≤ w14.heap.size := (by simpa using hc14.size); have hB14 : Below w.heap.size w w14 := Chg.below ((hB.alloc (by omega) (.cells #[.int .i64 0] 3)).drew) hc14 (by omega) (by simp; omega); have y14_0 : w14.cell? ⟨w11.heap.size, 0, none⟩ = some (.int .i64 q0) := (Chg.cell hc14 (p := ⟨w11.heap.size, 0, none⟩) (by simp; omega) (.inr (by show wp.heap.size ≤ w11.heap.size; omega))).trans (by simp [go_sem, c0, hLw]); have y14_1 : w14.cell? ⟨w11.heap.size, 1, none⟩ = some (.int .i64 en) := (Chg.cell hc14 (p := ⟨w11.heap.size, 1, none⟩) (by simp; omega) (.inr (by show wp.heap.size ≤ w11.heap.size; omega))).trans (by simp [go_sem, c1, hLw]); have H14 := Lib.hid (And.intro ho14 hB14); clear ho14 hg14 hc14 hB14) | (go_at_call 11; refine (HWM.out w14 A14 c14 H14.out.2 (Rd.of_own H14.out.1)).mono ?_; rintro e w15 ⟨rfl, hb15⟩; have H15 := Lib.hid (H14.out.2.trans (hb15.mono H14.out.2.size)); have y15_0 := (Below.cell hb15 (p := ⟨w11.heap.size, 0, none⟩) (by show w11.heap.size < w14.heap.size; omega)).trans y14_0; have y15_1 := (Below.cell hb15 (p := ⟨w11.heap.size, 1, none⟩) (by show w11.heap.size < w14.heap.size; omega)).trans y14_1; clear hb15)))
                  all_goals
                    go_wp2_with fail
                    go_ret
                    exact ⟨rfl, HB0.out.trans (H15.out.mono HB0.out.size)⟩
                · obtain rfl : en = q0 := by omega
                  have a1 : ld ≤ en := by omega
                  have a2 : s ≤ 2 * ld := by omega
                  have a3 : m ≤ ld := by omega
                  have a4 : en ≤ s := by omega
                  have a5 : 2 * en ≤ s + m := by omega
                  have d1 := decide_eq_true a1
                  have d2 := decide_eq_true a2
                  have d3 := decide_eq_true a3
                  have d4 := decide_eq_true a4
                  have d5 := decide_eq_true a5
                  have w1' : IntKind.i64.wrap (2 * ld) = 2 * ld := IntWalk.i64_in _ (by omega)
                  have w2' : IntKind.i64.wrap (2 * en) = 2 * en := IntWalk.i64_in _ (by omega)
                  have w3' : IntKind.i64.wrap (s + m) = s + m := IntWalk.i64_in _ (by omega)
                  clear hfin
                  go_upto_region 35 with fail
                  clear hkl
                  have hB := HB9.out
                  go_region_held3 (fun w' => w'.cell? ⟨w11.heap.size, 0, none⟩ = some (.int .i64 en) ∧ w'.cell? ⟨w11.heap.size, 1, none⟩ = some (.int .i64 q1)) (first | (with_reducible exact ⟨c0, c1⟩) | (refine ⟨?_, ?_⟩ <;> simp [go_sem, c0, c1, hLw]; done) | (with_reducible exact ⟨y14_0, y14_1⟩) | (with_reducible exact ⟨y15_0, y15_1⟩) | (refine ⟨?_, ?_⟩ <;> simp [go_sem, y14_0, y14_1]; done))
                    ((first | (go_at_call 15; refine (HQK.out _ ?_).mono ?_; (focus (repeat' (first | (with_reducible exact Below.refl _ _) | (with_reducible assumption) | (with_reducible refine Below.alloc ?_ ?_ _) | (with_reducible refine Below.setCell ?_ ?_ _) | (with_reducible refine Below.drew ?_) | (with_reducible refine below_drewN ?_ _) | (refine Below.trans ?_ (Below.mono (by with_reducible assumption) ?_)) | omega | (simp; done) | (simp; omega)))); rintro e w13 ⟨rfl, rfl⟩) | ((refine step_appG ?_ _ _ 24 rfl wq.heap.size 3 (.int .i64 0) 1 8 Try.underlying24 infoI rfl (Nat.le_of_ble_eq_true rfl) (.slice A' t.length c') t.length (ints (upto t.length)) rfl ?_ (wr.heap.size + 1) (some ⟨wr.heap.size, 0, none⟩) 1 1 [.int .i64 0] rfl ?_ (by decide) ?_ ?_ ?_ ?_); (focus (first | rfl | (simp [Region.wanted, yielded]; done))); (focus (refine Row2.own (lo := wq.heap.size) (hi := wp.heap.size) ?_; have hr_1 := HRO.out; (repeat' (first | (with_reducible assumption) | (with_reducible refine Row2.far ?_ ?_ _) | (with_reducible refine Row2.alloc ?_ _) | (with_reducible refine Row2.drewN ?_ _) | (with_reducible refine Row2.drew ?_) | (left; dsimp only; omega) | (right; dsimp only; omega))); done)); (focus (first | (with_reducible exact rd_one0 wr _) | exact rd_one0 wr _)); omega; omega; (focus (first | omega | (simp; omega))); intro A14 c14 w14 ho14 hg14; have hc14 := Row2.wrote (w := (wr.alloc (.cells #[.int .i64 0] 3)).drew) (Row2.drew (Row2.alloc HRO.out _)) hg14; have hs14 : wr.heap.size + 1 ≤ w14.heap.size := (by simpa using hc14.size); have hB14 : Below w.heap.size w w14 := Chg.below ((hB.alloc (by omega) (.cells #[.int .i64 0] 3)).drew) hc14 (by omega) (by simp; omega); have y14_0 : w14.cell? ⟨w11.heap.size, 0, none⟩ = some (.int .i64 en) := (Chg.cell hc14 (p := ⟨w11.heap.size, 0, none⟩) (by simp; omega) (.inr (by show wp.heap.size ≤ w11.heap.size; omega))).trans (by simp [go_sem, c0, hLw]); have y14_1 : w14.cell? ⟨w11.heap.size, 1, none⟩ = some (.int .i64 q1) := (Chg.cell hc14 (p := ⟨w11.heap.size, 1, none⟩) (by simp; omega) (.inr (by show wp.heap.size ≤ w11.heap.size; omega))).trans (by simp [go_sem, c1, hLw]); have H14 := Lib.hid (And.intro ho14 hB14); clear ho14 hg14 hc14 hB14) | (go_at_call 11; refine (HWM.out w14 A14 c14 H14.out.2 (Rd.of_own H14.out.1)).mono ?_; rintro e w15 ⟨rfl, hb15⟩; have H15 := Lib.hid (H14.out.2.trans (hb15.mono H14.out.2.size)); have y15_0 := (Below.cell hb15 (p := ⟨w11.heap.size, 0, none⟩) (by show w11.heap.size < w14.heap.size; omega)).trans y14_0; have y15_1 := (Below.cell hb15 (p := ⟨w11.heap.size, 1, none⟩) (by show w11.heap.size < w14.heap.size; omega)).trans y14_1; clear hb15)))
                  all_goals
                    go_wp2_with fail
                    go_ret
                    exact ⟨rfl, HB0.out.trans (H15.out.mono HB0.out.size)⟩
set_option maxRecDepth 100000 in
theorem lifted_FnQueues (os : Os) (started : os.Started) (H : Type) (enc : TypeId × Value → H) :
    ReturnsInHanded {} Try.checked os 3 .any (Rows.fnQueuesSpec.pre6 enc Try.prog Try.f3 Rows.fnQueuesRow.domain false) (Rows.fnQueuesSpec.post enc Try.prog Try.f3 false true false false) := by
  refine returnsInHanded_of_change (C := Try.checked) own_knob started (by kernel_rfl) Try.func3
    (ChangeSpec.witness6 (enc := enc) (C := Try.checked) false ⟨#[], #[.slice none 0 0], []⟩ 8 (by kernel_rfl) (by kernel_rfl) (by kernel_rfl) (by kernel_rfl)) ?_
  intro W base args ds gs before hval0 hW hcnd _
  have hval : ∀ (j : Nat) t v, Try.f3.params[j]? = some t → args[j]? = some v → Value.okWide Try.prog W .any base t v := hval0
  have hW' := hW
  obtain ⟨p, q, hA0, hV, rfl, hfz, hnd⟩ := hW
  have hA : DataW.TrodAll enc Try.prog W 0 (fun _ => true) true Try.f3.params.toList args.toList ds p := hA0
  rw [Try.params3] at hA hval
  obtain ⟨v0, vs0, d0, ds0, p0, q0, hargs, rfl, rfl, h0, r0⟩ := trodAll_cons hA
  obtain ⟨rfl, rfl, rfl⟩ := trodAll_nil r0
  obtain rfl : args = #[v0] := by cases args; simp_all
  obtain ⟨rfl, rfl⟩ := trodVars_none hV
  obtain ⟨A0, c0, l0, rfl, hr0⟩ := arg_bytes (hval 0 22 v0 rfl rfl) h0
  have lt0 : ∀ x ∈ p0, x.block < W.heap.size := by obtain ⟨m, hm⟩ := h0; exact DataW.trod_lt m _ _ _ hm
  clear hA0 hval0
  refine (walk_FnQueues W A0 c0 l0 hr0).mono fun e W' ⟨he, bel⟩ => ?_
  subst he
  exact ⟨_, rfl, _, _, _, [], _, [], hW', trodAll_mk1 (shut_bool Try.underlying4 _), (trodAll_cons_mk (Below.trod laid_out (by kernel_rfl) (of_decide_eq_true (by kernel_rfl)) h0 bel lt0) trodAll_mk0), rfl, bel.frame _, fun h => by cases h⟩

theorem fnQueues_holds : Rows.FnQueuesSaid :=
  OpenClaim.holds_of_wide 3 Try.f3 rfl rfl rfl rfl rfl rfl rfl ⟨rfl, rfl, rfl, rfl, rfl⟩ rfl rfl rfl rfl rfl (by kernel_rfl) Try.func3 (by kernel_rfl)
    (of_decide_eq_true (by kernel_rfl)) (by unfold Func.isWrapper; rw [if_neg (by decide +kernel)]; exact ⟨rfl, rfl⟩)
    (fun os started H enc _ => lifted_FnQueues os started H enc)
end Go.Proofs.Ytljidaniidfdoaa
