/- copyInts, SwapSaves. -/
import Derived.Test.YtljidaniidfdoaaWait
import Derived.Test.YtljidaniidfdoaaMem
namespace Go.Proofs.Ytljidaniidfdoaa
open Go.RowKit
set_option maxHeartbeats 400000 in
theorem copyInts_any (A : Option Addr) (c : Nat) (l : List Int) (w : World) (h : RdI w w.heap.size A c l) (hs : l.length ≤ 1048576) :
    Calls Try.prog 45 #[.slice A l.length c] w fun e w' => ∃ A' c', e = .returned (.slice A' l.length c') ∧ OwnI w' w.heap.size A' c' l ∧ Below w.heap.size w w' := by
  obtain ⟨hl, hm⟩ := h.le
  go_enter Try.func45, Try.ntmps45
  go_wp2_with (at_builtin; refine wpList_appAll rfl _ _ 24 rfl w.heap.size 3 (.int .i64 0) 1 8 Try.underlying24 infoI rfl (by decide) (.slice none 0 0) 0 [] rfl (World.ownsRow_nil _ _ _ _) _ A l.length c (ints l) rfl h (ints_one l) (by omega) (by omega) (by simp) ?_)
  intro A1 c1 w1 ho1 hg1
  have hb1 : Below w.heap.size w w1 := (Below.refl _ _).grown hg1 (by simp) (by simp [Value.ownBlock])
  try simp only [Nat.zero_add, List.nil_append] at ho1
  have H1 := Lib.hid (And.intro ho1 hb1)
  clear ho1 hb1 hg1
  go_wp2
  go_ret
  exact ⟨A1, c1, by simp, H1.out.1, H1.out.2⟩
def swapped (l : List Int) (k : Nat) : List Int := (l.set k (l.getD (k + 1) 0)).set (k + 1) (l.getD k 0)
def swapSaves (times order : List Int) (k : Int) : Int :=
  if 0 ≤ waitOf times order ∧ inB k 0 (order.length - 2) = true then waitOf times order - waitOf times (swapped order k.toNat) else 0
theorem waitGo_bound (times : List Int) (ht : ∀ j : Nat, 0 ≤ times.getD j 0 ∧ times.getD j 0 ≤ 100) : ∀ (order : List Int) (seen : List Bool) (now n : Int) (m : Int), 0 ≤ n → n ≤ 1200 * m → 0 ≤ now → now ≤ 100 * m → 0 ≤ m → m + order.length ≤ 12 → -1 ≤ waitGo times order seen now n ∧ waitGo times order seen now n ≤ 14400
  | [], _, _, n, m, h1, h2, _, _, _, h5 => by simp only [waitGo, List.length_nil] at *; omega
  | i :: rest, seen, now, n, m, h1, h2, h3, h4, h5, h6 => by
    rw [waitGo_cons]
    split
    · have := ht i.toNat
      simp only [List.length_cons] at h6
      exact waitGo_bound times ht rest _ _ _ (m + 1) (by omega) (by omega) (by omega) (by omega) (by omega) (by omega)
    · omega
theorem waitOf_bound (times order : List Int) : -1 ≤ waitOf times order ∧ waitOf times order ≤ 14400 := by
  by_cases h : queueOk times = true ∧ order.length = times.length
  · rw [waitOf_yes h.1 h.2]
    obtain ⟨ha, h12⟩ := queueOk_iff h.1
    refine waitGo_bound times (fun j => ?_) order _ 0 0 0 (by omega) (by omega) (by omega) (by omega) (by omega) (by omega)
    rw [List.getD_eq_getElem?_getD]
    cases hx : times[j]? with
    | none => simp
    | some x => have := allIn_mem ha hx; simp; omega
  · rw [waitOf_no (by by_cases hq : queueOk times = true; (exact .inr fun he => h ⟨hq, he⟩); (exact .inl (by simpa using hq)))]
    omega
set_option maxHeartbeats 1600000 in
theorem SwapSaves_any (A : Option Addr) (c : Nat) (l : List Int) (B : Option Addr) (d : Nat) (m : List Int) (k : Int) (w : World) (h : RdI w w.heap.size A c l) (h' : RdI w w.heap.size B d m) (hs : m.length ≤ 1048576) :
    Calls Try.prog 12 #[.slice A l.length c, .slice B m.length d, .int .i64 k] w fun e w' => e = .returned (.int .i64 (swapSaves l m k)) ∧ Below w.heap.size w w' := by
  obtain ⟨hl, hm⟩ := h.le
  obtain ⟨hl', hm'⟩ := h'.le
  obtain ⟨v, hv⟩ : ∃ v, v = waitOf l m := ⟨_, rfl⟩
  have hvb := waitOf_bound l m
  rw [← hv] at hvb
  by_cases h0 : v < 0
  · have e1 : swapSaves l m k = 0 := by unfold swapSaves; rw [if_neg (by rw [← hv]; omega)]
    have E1 := Lib.hid e1; clear e1
    have HV := Lib.hid hv; clear hv
    go_enter Try.func12, Try.ntmps12
    go_wp2_with fail
    refine (WaitOf_any A c l B d m _ h h').mono ?_
    rintro e w1 ⟨rfl, hb1⟩
    rw [← HV.out]
    go_wp2_with fail
    go_ret
    exact ⟨ret_int E1.out.symm, hb1⟩
  cases hk : inB k 0 (m.length - 2)
  · have e1 : swapSaves l m k = 0 := by unfold swapSaves; rw [if_neg (by simp [hk])]
    have E1 := Lib.hid e1; clear e1
    have HV := Lib.hid hv; clear hv
    go_enter Try.func12, Try.ntmps12
    go_wp2_with fail
    refine (WaitOf_any A c l B d m _ h h').mono ?_
    rintro e w1 ⟨rfl, hb1⟩
    rw [← HV.out]
    go_wp2_with (go_at_call 44; refine (within_any _ _ _ _).mono ?_; rintro e w' ⟨rfl, rfl⟩)
    go_ret
    exact ⟨ret_int E1.out.symm, hb1⟩
  have hkk := inB_iff.1 hk
  obtain ⟨kn, rfl⟩ := Int.eq_ofNat_of_zero_le hkk.1
  have hkn : kn + 1 < m.length := by omega
  have e1 : swapSaves l m kn = v - waitOf l (swapped m kn) := by unfold swapSaves; rw [if_pos ⟨by rw [← hv]; omega, hk⟩, hv]; rfl
  have E1 := Lib.hid e1; clear e1 hkk
  have HV := Lib.hid hv; clear hv
  go_enter Try.func12, Try.ntmps12
  go_wp2_with fail
  refine (WaitOf_any A c l B d m _ h h').mono ?_
  rintro e w1 ⟨rfl, hb1⟩
  rw [← HV.out]
  have hr1 : RdI w1 w1.heap.size B d m := Rd.later h' hb1
  go_wp2_with (first | (go_at_call 44; refine (within_any _ _ _ _).mono ?_; rintro e w' ⟨rfl, rfl⟩) | fail)
  refine (copyInts_any B d m _ hr1 hs).mono ?_
  rintro e w2 ⟨A2, c2, rfl, ho2, hb2⟩
  go_wp2_with fail
  obtain ⟨g, hg, hg1, hg2, hfz, ⟨x, hx, hmx⟩, ho3, _⟩ := ho2.set_ (k := kn) (by omega) (m.getD (kn + 1) 0)
  obtain ⟨g', hg', _, _, hfz', ⟨y, hy, hmy⟩, _, _⟩ := ho2.set_ (k := kn + 1) (by omega) (m.getD kn 0)
  subst hg
  obtain rfl : g = g' := by simpa using hg'
  have hX : m.getD kn 0 = x := by rw [List.getD_eq_getElem?_getD, hmx]; rfl
  have hY : m.getD (kn + 1) 0 = y := by rw [List.getD_eq_getElem?_getD, hmy]; rfl
  rw [hY] at ho3
  obtain ⟨g2, hg2', _, _, _, _, ho4, _⟩ := ho3.set_ (k := kn + 1) (by rw [List.length_set]; omega) x
  obtain rfl : g = g2 := by simpa using hg2'
  have hsw : (m.set kn y).set (kn + 1) x = swapped m kn := by unfold swapped; rw [hX, hY]
  rw [hsw] at ho4
  have hB2 := hb1.trans (hb2.mono hb1.size)
  have hB4 := (hB2.setCell (p := ⟨g, kn, none⟩) (by have := hb1.size; show _ ≤ g; omega) (.int .i64 y)).setCell (p := ⟨g, kn + 1, none⟩) (by have := hb1.size; show _ ≤ g; omega) (.int .i64 x)
  have hsl : (swapped m kn).length = m.length := by unfold swapped; simp
  have H4 := Lib.hid (And.intro ho4 (And.intro hB4 hsl))
  clear ho2 ho3 ho4 hB2 hB4 hb1 hb2 hr1 hX hY hsw hsl hg2' hg' hmx hmy
  have q0 : (0 : Int) ≤ (kn : Int) := by omega
  have q1 : (kn : Int) < (m.length : Int) := by omega
  have q2 : IntKind.i64.wrap ((kn : Int) + 1) = (kn : Int) + 1 := IntWalk.i64_in _ (by omega)
  have q3 : (0 : Int) ≤ (kn : Int) + 1 := by omega
  have q4 : (kn : Int) + 1 < (m.length : Int) := by omega
  have q5 : ((kn : Int) + 1).toNat = kn + 1 := by omega
  go_region
  clear q2 q3 q4 q5
  go_wp2_with fail
  refine name_world ?_
  intro W hW
  have hBW : Below w.heap.size w W := by rw [hW]; exact H4.out.2.1.drew
  have hoW : OwnI W w1.heap.size (some ⟨g, 0, none⟩) c2 (swapped m kn) := by rw [hW]; exact H4.out.1
  have HW := Lib.hid hW; clear hW
  refine (WaitOf_any A c l B d m _ (Rd.later h hBW) (Rd.later h' hBW)).mono ?_
  rintro e w5 ⟨rfl, hb5⟩
  have hB5 := hBW.trans (hb5.mono hBW.size)
  have ho5 := (hoW.below hb5).rd
  have hsl := H4.out.2.2
  go_wp2_with fail
  have hc := WaitOf_any A c l (some ⟨g, 0, none⟩) c2 (swapped m kn) _ (Rd.later h hB5) ho5
  rw [hsl] at hc
  refine hc.mono ?_
  rintro e w6 ⟨rfl, hb6⟩
  have hF := hB5.trans (hb6.mono hB5.size)
  have q9 : wrap64 (v - waitOf l (swapped m kn)) = v - waitOf l (swapped m kn) := IntWalk.wrap64_in _ (by have := waitOf_bound l (swapped m kn); omega)
  have HQ := Lib.hid (And.intro q9 hF)
  clear q9 hF hb6 hc
  rw [← HV.out]
  go_wp2_with fail
  go_ret
  exact ⟨ret_int (by rw [HQ.out.1]; exact E1.out.symm), HQ.out.2⟩
end Go.Proofs.Ytljidaniidfdoaa
