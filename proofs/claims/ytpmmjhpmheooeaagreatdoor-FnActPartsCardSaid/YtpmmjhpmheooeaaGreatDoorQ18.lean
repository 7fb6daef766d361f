/- Texts of the proof, joined: SellS. -/
import Derived.Test.YtpmmjhpmheooeaaGreatDoorQ17
import Derived.Test.YtpmmjhpmheooeaaGreatDoorQ6
namespace Go.Proofs.YtpmmjhpmheooeaaGreatDoor
set_option linter.unusedSimpArgs false
set_option linter.unusedVariables false
section
open Go.RowKit
set_option maxRecDepth 20000
theorem keep_row {w w' : World} {row : Option Nat} (hg : w.grownBy w' row) : ∀ (j : Nat) (t : TypeId) (cs : Array Value), Blk w j t cs → some j ≠ row → Blk w' j t cs := fun _ _ _ k hj => k.grown hg hj
theorem step_appE {P : Program} {w : World} {ops : Array Oper} {o : Oper} {a : Act} {K : Act → World → Prop} {Q : Exit → Act → World → Prop} {E : Prop} (hgd : o.guard = none) (s x : Operand) (t : TypeId)
  (ho : o.op = .call { callee := .builtin .append, args := #[s, x], argTypes := #[t, t] })
  (base : Nat) (e : TypeId) (z : Value) (size bytes : Nat) (ht : P.underlying t = some (.slice e)) (hinfo : (P.info? e).map (fun i => (i.zero, i.size, i.bytes)) = some (some z, size, bytes))
  (hzs : z.cells.size = size) (hsz : 0 < size)
  (v : Value) (hs : a.eval s = v) (hown : w.ownsRow base e size v 0 [])
  (B : Nat) (A : Option Addr) (m c : Nat) (news : List Value) (hx : a.eval x = .slice A m c) (hr : Rd w B size A m c news) (h1 : ∀ u ∈ news, u.oneCell' = true)
  (h63 : m ≤ 9223372036854775807) (hbytes : m * bytes ≤ 140737488355328) (hbase : base ≤ w.heap.size)
  (h : ∀ A' c' w', w'.ownsRow base e size (.slice A' m c') m news → w.grownBy w' v.ownBlock → K (a.put o.dst (.slice A' m c')) w') : if Region.wanted o (yielded ops a.tmps) = true then Oper.wp P o a w K Q else E :=
 step_appAll hgd s x t ho base e z size bytes ht hinfo hzs hsz v 0 [] hs hown B A m c news hx hr h1 (by omega) (by rw [Nat.zero_add]; exact hbytes) hbase fun A' c' w' h2 h3 => by
  rw [Nat.zero_add] at h2 ⊢
  exact h A' c' w' h2 h3
theorem own_ne_blk {w : World} {base g p sz n c : Nat} {e t : TypeId} {xs : List Value} {cs : Array Value} (h : w.ownsRow base e sz (.slice (some ⟨g, 0, none⟩) n c) n xs) (hk : Blk w p t cs) (hne : e ≠ t) : g ≠ p := by
 rcases h.2 with ⟨hn, _⟩ | ⟨b, cap, cur, hv, _, hh, _⟩
 ·cases hn
 ·simp only [Value.slice.injEq, Option.some.injEq, Addr.mk.injEq, true_and, and_true] at hv
  obtain ⟨rfl, rfl⟩ := hv
  rintro rfl
  unfold Blk at hk
  rw [hk] at hh
  injection hh with hh
  injection hh with _ ht
  exact hne ht.symm
theorem row_at {w : World} {base g sz n c : Nat} {e : TypeId} {xs : List Value} (h : w.ownsRow base e sz (.slice (some ⟨g, 0, none⟩) n c) n xs) : Row2 w g (g + 1) e sz (some ⟨g, 0, none⟩) n c xs := by
 refine ⟨⟨h.1, ?_⟩, fun j hj => by have h9 : g = j := Option.some.inj hj; omega⟩
 rcases h.2 with ⟨hn, _⟩ | ⟨b, cap, cur, hv, hg, r⟩
 ·cases hn
 ·refine .inr ⟨b, cap, cur, hv, ?_, r⟩
  simp only [Value.slice.injEq, Option.some.injEq, Addr.mk.injEq, true_and, and_true] at hv
  omega
theorem Rd.take {w : World} {B sz n c k : Nat} {A : Option Addr} {xs : List Value} (h : Rd w B sz A n c xs) (hk : k ≤ n) : Rd w B sz A k c (xs.take (k * sz)) := by
 obtain ⟨h1, h2, h3, h4⟩ := h
 refine ⟨?_, by omega, h3, fun hn => ?_⟩
 ·rw [List.length_take, h1]; have := Nat.mul_le_mul_right sz hk; omega
 ·obtain ⟨b, o, e, hb, hc⟩ := h4 (by omega)
  refine ⟨b, o, e, hb, fun j u hu => hc j u ?_⟩
  rw [List.getElem?_take] at hu
  split at hu
  ·exact hu
  ·cases hu
theorem Rd.drop {w : World} {B sz n c k g : Nat} {xs : List Value} (h : Rd w B sz (some ⟨g, 0, none⟩) n c xs) (hk : k ≤ n) : Rd w B sz (if c = k then some ⟨g, 0, none⟩ else some ⟨g, k * sz, none⟩) (n - k) (c - k) (xs.drop (k * sz)) := by
 obtain ⟨h1, h2, h3, h4⟩ := h
 refine ⟨?_, by omega, by omega, fun hn => ?_⟩
 ·rw [List.length_drop, h1, Nat.sub_mul]
 ·obtain ⟨b, o, e, hb, hc⟩ := h4 (by omega)
  simp only [Option.some.injEq, Addr.mk.injEq, and_true] at e
  obtain ⟨rfl, rfl⟩ := e
  rw [if_neg (by omega)]
  refine ⟨g, k * sz, rfl, hb, fun j u hu => ?_⟩
  rw [List.getElem?_drop] at hu
  rw [Nat.add_comm] at hu
  have := hc _ u hu
  rwa [Nat.zero_add, Nat.add_comm] at this
theorem mulF_ok {a b c d p q : Int} (h : mulF a b c d = (p, q, true)) : fracOk p q = true := by
 unfold mulF at h
 split at h
 ·rename_i hf
  simp only [Bool.and_eq_true] at hf
  obtain ⟨_, _, b1, _⟩ := fracOk_iff hf.1
  obtain ⟨_, _, d1, _⟩ := fracOk_iff hf.2
  have : 1 ≤ b * d := Int.mul_pos (by omega) (by omega)
  exact (redF_ok (by omega) h).1
 ·simp at h
theorem cutS_frac {l : List T3} {o y z : Int} (hl : ∀ e ∈ l, fracOk e.y e.z = true) (h : fracOk y z = true) : ∀ e ∈ cutS l o y z, fracOk e.y e.z = true := by
 induction l with
 |nil => intro e he; simp [cutS] at he
 |cons a l ih =>
  intro e he
  rw [cutS_cons] at he
  split at he
  ·split at he
   ·exact hl e (List.mem_cons_of_mem _ he)
   ·rcases List.mem_cons.1 he with rfl | he
    ·exact h
    ·exact hl e (List.mem_cons_of_mem _ he)
  ·rcases List.mem_cons.1 he with rfl | he
   ·exact hl e (by simp)
   ·exact ih (fun x hx => hl x (List.mem_cons_of_mem _ hx)) e he
/-- The reference's ends: where the buyer has a right .. -/
theorem sellS_old {l : List T3} {f t a b y z u1 u2 r1 r2 s1 s2 : Int} {ok : Bool} {e : T3} (hG : sellG l f t a b = true) (gs : shareOf l f = (y, z)) (hm : mulF y z a b = (u1, u2, true)) (hr : mulF y z (b - a) b = (r1, r2, true))
  (he : (cutS l f r1 r2)[posA (cutS l f r1 r2) t]? = some e) (hx : e.x = t) (ha : addF e.y e.z u1 u2 = (s1, s2, ok)) :
  sellF l f t a b = if ok && rightsOk ((cutS l f r1 r2).set (posA (cutS l f r1 r2) t) ⟨t, s1, s2⟩) then ((cutS l f r1 r2).set (posA (cutS l f r1 r2) t) ⟨t, s1, s2⟩, true) else (l, false) := by
 have h1 := sellTo_is (t := t) gs hm hr
 have hok := sellG_iff.1 hG
 obtain ⟨_, _, hall⟩ := rights_facts hok.1
 have hfr := cutS_frac (l := l) (o := f) (fun e he => (hall e he).1) (mulF_ok hr)
 have hup := upO_cut l f r1 r2 0 (rights_up hok.1)
 by_cases hu : u1 = 0
 ·have hu2 := frac_zero (mulF_ok hm) hu
  subst hu; subst hu2
  have hz := addSh_zero hup hfr he hx
  rw [addSh_old he hx ha] at hz
  cases ok
  ·simp at hz
  ·simp only [if_true] at hz
   have hz' := Option.some.inj hz
   rw [sellF_some hG (by rw [h1]; rfl), hz']; rfl
 ·have hz := addSh_old he hx ha
  cases ok
  ·rw [sellF_none (by rw [h1, if_neg hu, hz]; rfl)]; rfl
  ·rw [sellF_some hG (by rw [h1, if_neg hu, hz]; rfl)]; rfl
/-- .. where a right is put in .. -/
theorem sellS_new {l : List T3} {f t a b y z u1 u2 r1 r2 : Int} (hG : sellG l f t a b = true) (gs : shareOf l f = (y, z)) (hm : mulF y z a b = (u1, u2, true)) (hr : mulF y z (b - a) b = (r1, r2, true))
  (hn : ∀ e, (cutS l f r1 r2)[posA (cutS l f r1 r2) t]? = some e → e.x ≠ t) (hu : u1 ≠ 0) (q : List T3) (hq : q = (cutS l f r1 r2).take (posA (cutS l f r1 r2) t) ++ ⟨t, u1, u2⟩ :: (cutS l f r1 r2).drop (posA (cutS l f r1 r2) t)) :
  sellF l f t a b = if rightsOk q then (q, true) else (l, false) := by
 have h1 := sellTo_is (t := t) gs hm hr
 rw [sellF_some hG (by rw [h1, if_neg hu, addSh_new hn, ← hq]; rfl)]
/-- .. and where nothing moves. -/
theorem sellS_not {l : List T3} {f t a b y z u1 u2 r1 r2 : Int} (hG : sellG l f t a b = true) (gs : shareOf l f = (y, z)) (hm : mulF y z a b = (u1, u2, true)) (hr : mulF y z (b - a) b = (r1, r2, true)) (hu : u1 = 0) :
  sellF l f t a b = if rightsOk (cutS l f r1 r2) then (cutS l f r1 r2, true) else (l, false) := by
 have h1 := sellTo_is (t := t) gs hm hr
 rw [sellF_some hG (by rw [h1, if_pos hu]; rfl)]
set_option maxHeartbeats 12800000 in
theorem SellShareS_no1 (A : Option Addr) (c : Nat) (l : List T3) (f t a b : Int) (w : World) (h : RdT w w.heap.size A c l) (hs : l.length ≤ 1048576) (g1 : rightsOk l = false) :
  Calls Tryz.prog 111 #[.slice A l.length c, .int .i64 f, .int .i64 t, .agg #[.int .i64 a, .int .i64 b]] w (SellRet (l, false) w) := by
 have H3 := Lib.hid (fun (W : World) (hb : Below w.heap.size w W) => RightsOkS_any A c l W (h.below hb))
 have HF := Lib.hid (fun (W : World) => FractionOkS_any a b W)
 have hlc : l.length ≤ c := h.2.1
 have hc63 : c ≤ 9223372036854775807 := h.2.2.1
 rw [g1] at H3
 go_enter Tryz.func111, Tryz.ntmps111
 go_wp2_with (at_builtin; refine wpList_appAll rfl _ _ 33 rfl (w.heap.size + 1) 69 (.agg #[.int .i64 0, .int .i64 0, .int .i64 0]) 3 24 Tryz.underlying33 infoRight rfl (by decide) (.slice (some ⟨w.heap.size + 1, 0, none⟩) 0 0) 0 [] rfl (ownEmpty' _ _ _ _ _ (by simp) (by exact ooT)) _ A l.length c (t3s l) rfl (h.below (by exact tacT)) (t3s_one l) (by omega) (by omega) (by exact ooT) ?_)
 intro A1 c1 w1 ho1 hg1
 try simp only [Nat.zero_add, List.nil_append] at ho1
 have hB : Below w.heap.size w w1 := Below.grown (by exact tacT) hg1 (by exact ooT) (by intro k hk; simp [Value.ownBlock] at hk; omega)
 have kb_p : Blk w1 w.heap.size 67 #[.int .i64 a, .int .i64 b] := Blk.grown (by exact blkT) hg1 (by simp [Value.ownBlock])
 have hr_s : Row2 w1 (w.heap.size + 1) w1.heap.size 69 3 A1 l.length c1 (t3s l) := Row2.born ho1
 have kc_p := kb_p.cells
 have kf_p := kb_p.frozens
 have hl_p := kb_p.lt
 clear ho1 hg1
 try simp only [Nat.zero_add]
 go_wp2_with fail
 refine (H3.out _ hB).mono ?_
 rintro e w3 ⟨rfl, hb⟩
 replace hB := hB.trans (Below.mono hb hB.size)
 have hz_w3 : w1.heap.size ≤ w3.heap.size := Below.size hb
 replace kb_p := kb_p.mv hb; obtain ⟨kb_p, kc_p, kf_p, hl_p, hn_p⟩ := kb_p
 replace hr_s := Row2.below hr_s hb (by omega)
 clear hb
 go_wp2_with fail
 refine bodyPost_ret (v := .tuple #[.slice A1 l.length c1, .bool false]) ?_ rfl ?_
 ·simp [results, Tryz.results111, go_sem]
 ·exact ⟨A1, c1, rfl, (Row2.mono (lo := w.heap.size + 1) (hi := w1.heap.size) (hi' := w1.heap.size) (by exact rowT) (by omega) (Nat.le_refl _)).1, by exact tacT⟩
set_option maxHeartbeats 12800000 in
theorem SellShareS_no2 (A : Option Addr) (c : Nat) (l : List T3) (f t a b : Int) (w : World) (h : RdT w w.heap.size A c l) (hs : l.length ≤ 1048576) (g1 : rightsOk l = true) (g5 : fracOk a b = false) :
  Calls Tryz.prog 111 #[.slice A l.length c, .int .i64 f, .int .i64 t, .agg #[.int .i64 a, .int .i64 b]] w (SellRet (l, false) w) := by
 have H3 := Lib.hid (fun (W : World) (hb : Below w.heap.size w W) => RightsOkS_any A c l W (h.below hb))
 have HF := Lib.hid (fun (W : World) => FractionOkS_any a b W)
 have hlc : l.length ≤ c := h.2.1
 have hc63 : c ≤ 9223372036854775807 := h.2.2.1
 rw [g1] at H3
 rw [g5] at HF
 go_enter Tryz.func111, Tryz.ntmps111
 go_wp2_with (at_builtin; refine wpList_appAll rfl _ _ 33 rfl (w.heap.size + 1) 69 (.agg #[.int .i64 0, .int .i64 0, .int .i64 0]) 3 24 Tryz.underlying33 infoRight rfl (by decide) (.slice (some ⟨w.heap.size + 1, 0, none⟩) 0 0) 0 [] rfl (ownEmpty' _ _ _ _ _ (by simp) (by exact ooT)) _ A l.length c (t3s l) rfl (h.below (by exact tacT)) (t3s_one l) (by omega) (by omega) (by exact ooT) ?_)
 intro A1 c1 w1 ho1 hg1
 try simp only [Nat.zero_add, List.nil_append] at ho1
 have hB : Below w.heap.size w w1 := Below.grown (by exact tacT) hg1 (by exact ooT) (by intro k hk; simp [Value.ownBlock] at hk; omega)
 have kb_p : Blk w1 w.heap.size 67 #[.int .i64 a, .int .i64 b] := Blk.grown (by exact blkT) hg1 (by simp [Value.ownBlock])
 have hr_s : Row2 w1 (w.heap.size + 1) w1.heap.size 69 3 A1 l.length c1 (t3s l) := Row2.born ho1
 have kc_p := kb_p.cells
 have kf_p := kb_p.frozens
 have hl_p := kb_p.lt
 clear ho1 hg1
 try simp only [Nat.zero_add]
 go_wp2_with fail
 refine (H3.out _ hB).mono ?_
 rintro e w3 ⟨rfl, hb⟩
 replace hB := hB.trans (Below.mono hb hB.size)
 have hz_w3 : w1.heap.size ≤ w3.heap.size := Below.size hb
 replace kb_p := kb_p.mv hb; obtain ⟨kb_p, kc_p, kf_p, hl_p, hn_p⟩ := kb_p
 replace hr_s := Row2.below hr_s hb (by omega)
 clear hb
 go_wp2_with fail
 refine (HF.out _).mono ?_
 rintro e w4 ⟨rfl, hb⟩
 replace hB := hB.trans (Below.mono hb hB.size)
 have hz_w4 : w3.heap.size ≤ w4.heap.size := Below.size hb
 replace kb_p := kb_p.mv hb; obtain ⟨kb_p, kc_p, kf_p, hl_p, hn_p⟩ := kb_p
 replace hr_s := Row2.below hr_s hb (by omega)
 clear hb
 go_wp2_with fail
 refine bodyPost_ret (v := .tuple #[.slice A1 l.length c1, .bool false]) ?_ rfl ?_
 ·simp [results, Tryz.results111, go_sem]
 ·exact ⟨A1, c1, rfl, (Row2.mono (lo := w.heap.size + 1) (hi := w1.heap.size) (hi' := w1.heap.size) (by exact rowT) (by omega) (Nat.le_refl _)).1, by exact tacT⟩
set_option maxHeartbeats 12800000 in
theorem SellShareS_no3 (A : Option Addr) (c : Nat) (l : List T3) (f t a b : Int) (w : World) (h : RdT w w.heap.size A c l) (hs : l.length ≤ 1048576) (g1 : rightsOk l = true) (g5 : fracOk a b = true) (g6 : b < a) :
  Calls Tryz.prog 111 #[.slice A l.length c, .int .i64 f, .int .i64 t, .agg #[.int .i64 a, .int .i64 b]] w (SellRet (l, false) w) := by
 have H3 := Lib.hid (fun (W : World) (hb : Below w.heap.size w W) => RightsOkS_any A c l W (h.below hb))
 have HF := Lib.hid (fun (W : World) => FractionOkS_any a b W)
 have hlc : l.length ≤ c := h.2.1
 have hc63 : c ≤ 9223372036854775807 := h.2.2.1
 rw [g1] at H3
 rw [g5] at HF
 have g6' : decide (b < a) = true := by simpa using g6
 go_enter Tryz.func111, Tryz.ntmps111
 go_wp2_with (at_builtin; refine wpList_appAll rfl _ _ 33 rfl (w.heap.size + 1) 69 (.agg #[.int .i64 0, .int .i64 0, .int .i64 0]) 3 24 Tryz.underlying33 infoRight rfl (by decide) (.slice (some ⟨w.heap.size + 1, 0, none⟩) 0 0) 0 [] rfl (ownEmpty' _ _ _ _ _ (by simp) (by exact ooT)) _ A l.length c (t3s l) rfl (h.below (by exact tacT)) (t3s_one l) (by omega) (by omega) (by exact ooT) ?_)
 intro A1 c1 w1 ho1 hg1
 try simp only [Nat.zero_add, List.nil_append] at ho1
 have hB : Below w.heap.size w w1 := Below.grown (by exact tacT) hg1 (by exact ooT) (by intro k hk; simp [Value.ownBlock] at hk; omega)
 have kb_p : Blk w1 w.heap.size 67 #[.int .i64 a, .int .i64 b] := Blk.grown (by exact blkT) hg1 (by simp [Value.ownBlock])
 have hr_s : Row2 w1 (w.heap.size + 1) w1.heap.size 69 3 A1 l.length c1 (t3s l) := Row2.born ho1
 have kc_p := kb_p.cells
 have kf_p := kb_p.frozens
 have hl_p := kb_p.lt
 clear ho1 hg1
 try simp only [Nat.zero_add]
 go_wp2_with fail
 refine (H3.out _ hB).mono ?_
 rintro e w3 ⟨rfl, hb⟩
 replace hB := hB.trans (Below.mono hb hB.size)
 have hz_w3 : w1.heap.size ≤ w3.heap.size := Below.size hb
 replace kb_p := kb_p.mv hb; obtain ⟨kb_p, kc_p, kf_p, hl_p, hn_p⟩ := kb_p
 replace hr_s := Row2.below hr_s hb (by omega)
 clear hb
 go_wp2_with fail
 refine (HF.out _).mono ?_
 rintro e w4 ⟨rfl, hb⟩
 replace hB := hB.trans (Below.mono hb hB.size)
 have hz_w4 : w3.heap.size ≤ w4.heap.size := Below.size hb
 replace kb_p := kb_p.mv hb; obtain ⟨kb_p, kc_p, kf_p, hl_p, hn_p⟩ := kb_p
 replace hr_s := Row2.below hr_s hb (by omega)
 clear hb
 go_wp2_with fail
 refine bodyPost_ret (v := .tuple #[.slice A1 l.length c1, .bool false]) ?_ rfl ?_
 ·simp [results, Tryz.results111, go_sem]
 ·exact ⟨A1, c1, rfl, (Row2.mono (lo := w.heap.size + 1) (hi := w1.heap.size) (hi' := w1.heap.size) (by exact rowT) (by omega) (Nat.le_refl _)).1, by exact tacT⟩
set_option maxHeartbeats 12800000 in
theorem SellShareS_no4 (A : Option Addr) (c : Nat) (l : List T3) (f t a b : Int) (w : World) (h : RdT w w.heap.size A c l) (hs : l.length ≤ 1048576) (g1 : rightsOk l = true) (g5 : fracOk a b = true) (g6 : a ≤ b) (g3 : f = t) :
  Calls Tryz.prog 111 #[.slice A l.length c, .int .i64 f, .int .i64 t, .agg #[.int .i64 a, .int .i64 b]] w (SellRet (l, false) w) := by
 have H3 := Lib.hid (fun (W : World) (hb : Below w.heap.size w W) => RightsOkS_any A c l W (h.below hb))
 have HF := Lib.hid (fun (W : World) => FractionOkS_any a b W)
 have hlc : l.length ≤ c := h.2.1
 have hc63 : c ≤ 9223372036854775807 := h.2.2.1
 rw [g1] at H3
 rw [g5] at HF
 have hg6 : ¬ b < a := by omega
 have hg6' : decide (b < a) = false := by simp [hg6]
 subst g3
 go_enter Tryz.func111, Tryz.ntmps111
 go_wp2_with (at_builtin; refine wpList_appAll rfl _ _ 33 rfl (w.heap.size + 1) 69 (.agg #[.int .i64 0, .int .i64 0, .int .i64 0]) 3 24 Tryz.underlying33 infoRight rfl (by decide) (.slice (some ⟨w.heap.size + 1, 0, none⟩) 0 0) 0 [] rfl (ownEmpty' _ _ _ _ _ (by simp) (by exact ooT)) _ A l.length c (t3s l) rfl (h.below (by exact tacT)) (t3s_one l) (by omega) (by omega) (by exact ooT) ?_)
 intro A1 c1 w1 ho1 hg1
 try simp only [Nat.zero_add, List.nil_append] at ho1
 have hB : Below w.heap.size w w1 := Below.grown (by exact tacT) hg1 (by exact ooT) (by intro k hk; simp [Value.ownBlock] at hk; omega)
 have kb_p : Blk w1 w.heap.size 67 #[.int .i64 a, .int .i64 b] := Blk.grown (by exact blkT) hg1 (by simp [Value.ownBlock])
 have hr_s : Row2 w1 (w.heap.size + 1) w1.heap.size 69 3 A1 l.length c1 (t3s l) := Row2.born ho1
 have kc_p := kb_p.cells
 have kf_p := kb_p.frozens
 have hl_p := kb_p.lt
 clear ho1 hg1
 try simp only [Nat.zero_add]
 go_wp2_with fail
 refine (H3.out _ hB).mono ?_
 rintro e w3 ⟨rfl, hb⟩
 replace hB := hB.trans (Below.mono hb hB.size)
 have hz_w3 : w1.heap.size ≤ w3.heap.size := Below.size hb
 replace kb_p := kb_p.mv hb; obtain ⟨kb_p, kc_p, kf_p, hl_p, hn_p⟩ := kb_p
 replace hr_s := Row2.below hr_s hb (by omega)
 clear hb
 go_wp2_with fail
 refine (HF.out _).mono ?_
 rintro e w4 ⟨rfl, hb⟩
 replace hB := hB.trans (Below.mono hb hB.size)
 have hz_w4 : w3.heap.size ≤ w4.heap.size := Below.size hb
 replace kb_p := kb_p.mv hb; obtain ⟨kb_p, kc_p, kf_p, hl_p, hn_p⟩ := kb_p
 replace hr_s := Row2.below hr_s hb (by omega)
 clear hb
 go_wp2_with fail
 refine bodyPost_ret (v := .tuple #[.slice A1 l.length c1, .bool false]) ?_ rfl ?_
 ·simp [results, Tryz.results111, go_sem]
 ·exact ⟨A1, c1, rfl, (Row2.mono (lo := w.heap.size + 1) (hi := w1.heap.size) (hi' := w1.heap.size) (by exact rowT) (by omega) (Nat.le_refl _)).1, by exact tacT⟩
set_option maxHeartbeats 12800000 in
theorem SellShareS_no5 (A : Option Addr) (c : Nat) (l : List T3) (f t a b : Int) (w : World) (h : RdT w w.heap.size A c l) (hs : l.length ≤ 1048576) (g1 : rightsOk l = true) (g5 : fracOk a b = true) (g6 : a ≤ b) (g3 : f ≠ t) (g4 : inB t 1 999 = false) :
  Calls Tryz.prog 111 #[.slice A l.length c, .int .i64 f, .int .i64 t, .agg #[.int .i64 a, .int .i64 b]] w (SellRet (l, false) w) := by
 have H3 := Lib.hid (fun (W : World) (hb : Below w.heap.size w W) => RightsOkS_any A c l W (h.below hb))
 have HF := Lib.hid (fun (W : World) => FractionOkS_any a b W)
 have hlc : l.length ≤ c := h.2.1
 have hc63 : c ≤ 9223372036854775807 := h.2.2.1
 rw [g1] at H3
 rw [g5] at HF
 have hg6 : ¬ b < a := by omega
 have hg6' : decide (b < a) = false := by simp [hg6]
 have hft : (f == t) = false := by simp [g3]
 have HIN := Lib.hid g4
 go_enter Tryz.func111, Tryz.ntmps111
 go_wp2_with (at_builtin; refine wpList_appAll rfl _ _ 33 rfl (w.heap.size + 1) 69 (.agg #[.int .i64 0, .int .i64 0, .int .i64 0]) 3 24 Tryz.underlying33 infoRight rfl (by decide) (.slice (some ⟨w.heap.size + 1, 0, none⟩) 0 0) 0 [] rfl (ownEmpty' _ _ _ _ _ (by simp) (by exact ooT)) _ A l.length c (t3s l) rfl (h.below (by exact tacT)) (t3s_one l) (by omega) (by omega) (by exact ooT) ?_)
 intro A1 c1 w1 ho1 hg1
 try simp only [Nat.zero_add, List.nil_append] at ho1
 have hB : Below w.heap.size w w1 := Below.grown (by exact tacT) hg1 (by exact ooT) (by intro k hk; simp [Value.ownBlock] at hk; omega)
 have kb_p : Blk w1 w.heap.size 67 #[.int .i64 a, .int .i64 b] := Blk.grown (by exact blkT) hg1 (by simp [Value.ownBlock])
 have hr_s : Row2 w1 (w.heap.size + 1) w1.heap.size 69 3 A1 l.length c1 (t3s l) := Row2.born ho1
 have kc_p := kb_p.cells
 have kf_p := kb_p.frozens
 have hl_p := kb_p.lt
 clear ho1 hg1
 try simp only [Nat.zero_add]
 go_wp2_with fail
 refine (H3.out _ hB).mono ?_
 rintro e w3 ⟨rfl, hb⟩
 replace hB := hB.trans (Below.mono hb hB.size)
 have hz_w3 : w1.heap.size ≤ w3.heap.size := Below.size hb
 replace kb_p := kb_p.mv hb; obtain ⟨kb_p, kc_p, kf_p, hl_p, hn_p⟩ := kb_p
 replace hr_s := Row2.below hr_s hb (by omega)
 clear hb
 go_wp2_with fail
 refine (HF.out _).mono ?_
 rintro e w4 ⟨rfl, hb⟩
 replace hB := hB.trans (Below.mono hb hB.size)
 have hz_w4 : w3.heap.size ≤ w4.heap.size := Below.size hb
 replace kb_p := kb_p.mv hb; obtain ⟨kb_p, kc_p, kf_p, hl_p, hn_p⟩ := kb_p
 replace hr_s := Row2.below hr_s hb (by omega)
 clear hb
 go_wp2_with fail
 refine (l01In_any _ _ _ _).mono ?_
 rw [HIN.out]
 rintro e w' ⟨rfl, rfl⟩
 go_wp2_with fail
 refine bodyPost_ret (v := .tuple #[.slice A1 l.length c1, .bool false]) ?_ rfl ?_
 ·simp [results, Tryz.results111, go_sem]
 ·exact ⟨A1, c1, rfl, (Row2.mono (lo := w.heap.size + 1) (hi := w1.heap.size) (hi' := w1.heap.size) (by exact rowT) (by omega) (Nat.le_refl _)).1, by exact tacT⟩
set_option maxHeartbeats 12800000 in
theorem SellShareS_yes (A : Option Addr) (c : Nat) (l : List T3) (f t a b : Int) (w : World) (h : RdT w w.heap.size A c l) (hs : l.length ≤ 1048576) (g1 : rightsOk l = true) (g5 : fracOk a b = true) (g6 : a ≤ b) (g3 : f ≠ t) (g4 : inB t 1 999 = true) (y z : Int) (gs : shareOf l f = (y, z)) (u1 u2 r1 r2 : Int) (mok rok : Bool) (hm : mulF y z a b = (u1, u2, mok)) (hr : mulF y z (b - a) b = (r1, r2, rok)) :
  Calls Tryz.prog 111 #[.slice A l.length c, .int .i64 f, .int .i64 t, .agg #[.int .i64 a, .int .i64 b]] w (SellRet (sellF l f t a b) w) := by
 have H3 := Lib.hid (fun (W : World) (hb : Below w.heap.size w W) => RightsOkS_any A c l W (h.below hb))
 have HF := Lib.hid (fun (W : World) => FractionOkS_any a b W)
 have hlc : l.length ≤ c := h.2.1
 have hc63 : c ≤ 9223372036854775807 := h.2.2.1
 obtain ⟨hl12, hl1, hall⟩ := rights_facts g1
 have hup := rights_up g1
 obtain ⟨a0, a1, b0, b1⟩ := fracOk_iff g5
 have HT1 : Hid (∀ W, Calls Tryz.prog 141 #[.agg #[.int .i64 y, .int .i64 z], .agg #[.int .i64 a, .int .i64 b]] W fun e w' => e = frRet (u1, u2, mok) ∧ Below W.heap.size W w') := fun W => by rw [← hm]; exact TimesFractionS_any _ _ _ _ W
 have HT2 : Hid (∀ W, Calls Tryz.prog 141 #[.agg #[.int .i64 y, .int .i64 z], .agg #[.int .i64 (b - a), .int .i64 b]] W fun e w' => e = frRet (r1, r2, rok) ∧ Below W.heap.size W w') := fun W => by rw [← hr]; exact TimesFractionS_any _ _ _ _ W
 have HSH : Hid (∀ (k : Nat) (x : T3), l[k]? = some x → x.x = f → x.y = y ∧ x.z = z ∧ hasO (l.take k) f = false ∧ hasO l f = true) := fun k x hx hf => by
  have h9 := shareOf_at hup hx hf
  rw [gs] at h9
  exact ⟨(congrArg Prod.fst h9.1).symm, (congrArg Prod.snd h9.1).symm, h9.2.1, h9.2.2⟩
 have HPOS : Hid (∀ (k : Nat) (x : T3), l[k]? = some x → 1 ≤ x.y) := fun k x hx => (hall x (List.mem_of_getElem? hx)).2.1
 have HNO : Hid (hasO l f = false → sellF l f t a b = (l, false)) := fun h9 => sellG_no (by rw [h9]; simp)
 have HBAD : Hid ((mok && rok) = false → sellF l f t a b = (l, false)) := fun h9 => sellF_none (by rw [sellTo_is gs hm hr, h9]; rfl)
 have HGOOD : Hid (hasO l f = true → sellG l f t a b = true) := fun h9 => sellG_iff.2 ⟨g1, h9, g3, g4, g5, g6⟩
 obtain ⟨R, hR⟩ : ∃ R, R = sellF l f t a b := ⟨_, rfl⟩
 rw [← hR] at HNO HBAD ⊢
 have HR := Lib.hid (And.intro hR (And.intro gs (And.intro hm (And.intro hr (And.intro hup hall)))))
 rw [g1] at H3
 rw [g5] at HF
 have hg6 : ¬ b < a := by omega
 have hg6' : decide (b < a) = false := by simp [hg6]
 have hft : (f == t) = false := by simp [g3]
 have HIN := Lib.hid g4
 have hrdl := Lib.hid (fun (W : World) (hb : Below w.heap.size w W) => h.below hb)
 clear hR gs hm hr hup hall g1 g3 g4 g5 g6
 go_enter Tryz.func111, Tryz.ntmps111
 go_wp2_with (at_builtin; refine wpList_appAll rfl _ _ 33 rfl (w.heap.size + 1) 69 (.agg #[.int .i64 0, .int .i64 0, .int .i64 0]) 3 24 Tryz.underlying33 infoRight rfl (by decide) (.slice (some ⟨w.heap.size + 1, 0, none⟩) 0 0) 0 [] rfl (ownEmpty' _ _ _ _ _ (by simp) (by exact ooT)) _ A l.length c (t3s l) rfl (h.below (by exact tacT)) (t3s_one l) (by omega) (by omega) (by exact ooT) ?_)
 intro A1 c1 w1 ho1 hg1
 try simp only [Nat.zero_add, List.nil_append] at ho1
 have hB : Below w.heap.size w w1 := Below.grown (by exact tacT) hg1 (by exact ooT) (by intro k hk; simp [Value.ownBlock] at hk; omega)
 have kb_p : Blk w1 w.heap.size 67 #[.int .i64 a, .int .i64 b] := Blk.grown (by exact blkT) hg1 (by simp [Value.ownBlock])
 have hr_s : Row2 w1 (w.heap.size + 1) w1.heap.size 69 3 A1 l.length c1 (t3s l) := Row2.born ho1
 have kc_p := kb_p.cells
 have kf_p := kb_p.frozens
 have hl_p := kb_p.lt
 clear ho1 hg1
 try simp only [Nat.zero_add]
 go_wp2_with fail
 refine (H3.out _ hB).mono ?_
 rintro e w3 ⟨rfl, hb⟩
 replace hB := hB.trans (Below.mono hb hB.size)
 have hz_w3 : w1.heap.size ≤ w3.heap.size := Below.size hb
 replace kb_p := kb_p.mv hb; obtain ⟨kb_p, kc_p, kf_p, hl_p, hn_p⟩ := kb_p
 replace hr_s := Row2.below hr_s hb (by omega)
 clear hb
 go_wp2_with fail
 refine (HF.out _).mono ?_
 rintro e w4 ⟨rfl, hb⟩
 replace hB := hB.trans (Below.mono hb hB.size)
 have hz_w4 : w3.heap.size ≤ w4.heap.size := Below.size hb
 replace kb_p := kb_p.mv hb; obtain ⟨kb_p, kc_p, kf_p, hl_p, hn_p⟩ := kb_p
 replace hr_s := Row2.below hr_s hb (by omega)
 clear hb
 go_wp2_with fail
 refine (l01In_any _ _ _ _).mono ?_
 rw [HIN.out]
 rintro e w' ⟨rfl, rfl⟩
 go_wp2_with fail
 first | refine name_world ?_ | refine name_wp ?_
 intro W5 hW
 replace hB : Below w.heap.size w W5 := by rw [hW]; exact tacT
 have hz_W5 : w4.heap.size + 1 < W5.heap.size := by rw [hW]; exact sT
 have kb5_p : Blk W5 (w.heap.size) 67 #[.int .i64 a, .int .i64 b] := by rw [hW]; exact blkT
 have kb5_m : Blk W5 (w4.heap.size + 1) 67 #[.int .i64 0, .int .i64 0] := by rw [hW]; exact blkT
 have hr5_s : Row2 W5 (w.heap.size + 1) w1.heap.size 69 3 A1 l.length c1 (t3s l) := by rw [hW]; exact rowT
 have ho5 : W5.ownsRow w4.heap.size 69 3 (.slice (some ⟨w4.heap.size, 0, none⟩) 0 0) 0 [] := by rw [hW]; exact World.ownsRow.alloc (ownEmpty w4 w4.heap.size _ _ (Nat.le_refl _)) _
 clear hW kb_p kc_p kf_p hr_s hl_p hn_p
 go_loopw [11, 13, 14] (fun ov fv kv wr => ∃ (k g c' : Nat) (fd : Bool) (v1 v2 : Int), k ≤ l.length ∧ ov = .slice (some ⟨g, 0, none⟩) (cutAll (l.take k) f r1 r2).length c' ∧ fv = .bool fd ∧ kv = .int .i64 k ∧ Hid (fd = hasO (l.take k) f) ∧ Hid (fd = true → v1 = u1 ∧ v2 = u2 ∧ mok = true ∧ rok = true) ∧ Hid (wr.ownsRow w4.heap.size 69 3 (.slice (some ⟨g, 0, none⟩) (cutAll (l.take k) f r1 r2).length c') (cutAll (l.take k) f r1 r2).length (t3s (cutAll (l.take k) f r1 r2))) ∧ Blk wr (w4.heap.size + 1) 67 #[.int .i64 v1, .int .i64 v2] ∧ Blk wr w.heap.size 67 #[.int .i64 a, .int .i64 b] ∧ Row2 wr (w.heap.size + 1) w1.heap.size 69 3 A1 l.length c1 (t3s l) ∧ Below w.heap.size w wr) (fun _ _ kv _ => l.length - (intOf kv).toNat)
 case atStart => exact ⟨0, w4.heap.size, 0, false, 0, 0, Nat.zero_le _, rfl, rfl, rfl, rfl, (fun h9 => by cases h9), ho5, kb5_m, kb5_p, hr5_s, hB⟩
 case round =>
  clear kb5_m kb5_p hr5_s ho5 hB
  obtain ⟨k, g, c', fd, v1, v2, hk, rfl, rfl, rfl, HFD, HV, HO, kb_m, kb_p, hr_s, hB⟩ := hrel
  obtain ⟨q, hq⟩ : ∃ q, q = cutAll (l.take k) f r1 r2 := ⟨_, rfl⟩
  rw [← hq] at HO ⊢
  have hql : q.length ≤ 12 := by rw [hq]; have := cutAll_len (l.take k) f r1 r2; rw [List.length_take] at this; omega
  have HQ := Lib.hid hq
  clear hq
  have kc_m := kb_m.cells
  have kf_m := kb_m.frozens
  have hl_m := kb_m.lt
  have hn_m := Nat.ne_of_lt kb_m.lt
  have kc_p := kb_p.cells
  have kf_p := kb_p.frozens
  have hl_p := kb_p.lt
  have hn_p := Nat.ne_of_lt kb_p.lt
  have hws := hB.size
  by_cases hlt : k < l.length
  ·obtain ⟨bb, oo, x, rfl, hbb, hx, e0, e1, e2⟩ := (hrdl.out w (Below.refl _ _)).at_ hlt
   have f0 : wr.cell? ⟨bb, oo + k * 3, none⟩ = some (.int .i64 x.x) := (hB.cell (p := ⟨bb, _, none⟩) hbb).trans e0
   have f1 : wr.cell? ⟨bb, oo + k * 3 + 1, none⟩ = some (.int .i64 x.y) := (hB.cell (p := ⟨bb, _, none⟩) hbb).trans e1
   have f2 : wr.cell? ⟨bb, oo + k * 3 + 2, none⟩ = some (.int .i64 x.z) := (hB.cell (p := ⟨bb, _, none⟩) hbb).trans e2
   clear e0 e1 e2
   have hk0 : (0 : Int) ≤ (k : Int) := by omega
   have hk1 : (k : Int) < (l.length : Int) := by omega
   have hxy := HPOS.out k x hx
   have HX := Lib.hid hx
   clear hx
   by_cases hxf : x.x = f
   ·have hgw : w4.heap.size ≤ g := (HO.out.lt g rfl).1
    obtain ⟨rfl, rfl, hno, hyes⟩ := HSH.out k x HX.out hxf
    rw [hxf] at f0
    have hxd : (x.x == f) = true := by simp [hxf]
    have hfd : fd = false := by rw [HFD.out]; exact hno
    subst hfd
    have HNY := Lib.hid (And.intro hno hyes)
    have HXF := Lib.hid hxf
    clear hno hyes hxf
    have hgm : g ≠ w4.heap.size + 1 := own_ne_blk HO.out kb_m (by decide)
    have hgr : g < wr.heap.size := (HO.out.lt g rfl).2
    have hr_o := row_at HO.out
    go_wp2_with fail
    first | refine name_world ?_ | refine name_wp ?_
    intro Wa hW
    replace hB : Below w.heap.size w Wa := by rw [hW]; exact tacT
    have hz_Wa : wr.heap.size ≤ Wa.heap.size := by rw [hW]; exact sT
    replace kb_m : Blk Wa (w4.heap.size + 1) 67 #[.int .i64 v1, .int .i64 v2] := by rw [hW]; exact blkT
    have hLWa_m := kb_m.lt
    replace kb_p : Blk Wa (w.heap.size) 67 #[.int .i64 a, .int .i64 b] := by rw [hW]; exact blkT
    have hLWa_p := kb_p.lt
    replace kb_x : Blk Wa (wr.heap.size) 69 #[.int .i64 f, .int .i64 x.y, .int .i64 x.z] := by rw [hW]; exact blkT
    have hLWa_x := kb_x.lt
    replace hr_s : Row2 Wa (w.heap.size + 1) (w1.heap.size) 69 3 A1 (l.length) c1 (t3s l) := by rw [hW]; exact rowT
    replace hr_o : Row2 Wa (g) (g + 1) 69 3 (some ⟨g, 0, none⟩) (q.length) c' (t3s q) := by rw [hW]; exact rowT
    try clear kc_m kf_m
    try clear kc_p kf_p
    try clear kc_x kf_x
    clear hW
    clear f0 f1 f2
    refine (HT1.out _).mono ?_
    rintro e wa ⟨rfl, hb⟩
    unfold frRet
    replace hB := hB.trans (Below.mono hb hB.size)
    have hz_wa : Wa.heap.size ≤ wa.heap.size := Below.size hb
    replace kb_m := kb_m.mv hb; obtain ⟨kb_m, kc_m, kf_m, hl_m, hn_m⟩ := kb_m
    replace kb_p := kb_p.mv hb; obtain ⟨kb_p, kc_p, kf_p, hl_p, hn_p⟩ := kb_p
    replace kb_x := kb_x.mv hb; obtain ⟨kb_x, kc_x, kf_x, hl_x, hn_x⟩ := kb_x
    replace hr_s := Row2.below hr_s hb (by omega)
    replace hr_o := Row2.below hr_o hb (by omega)
    clear hb
    go_wp2_with fail
    first | refine name_world ?_ | refine name_wp ?_
    intro Wb hW
    replace hB : Below w.heap.size w Wb := by rw [hW]; exact tacT
    have hz_Wb : wa.heap.size ≤ Wb.heap.size := by rw [hW]; exact sT
    replace kb_m : Blk Wb (w4.heap.size + 1) 67 #[.int .i64 v1, .int .i64 v2] := by rw [hW]; exact blkT
    have hLWb_m := kb_m.lt
    replace kb_p : Blk Wb (w.heap.size) 67 #[.int .i64 a, .int .i64 b] := by rw [hW]; exact blkT
    have hLWb_p := kb_p.lt
    replace kb_x : Blk Wb (wr.heap.size) 69 #[.int .i64 f, .int .i64 x.y, .int .i64 x.z] := by rw [hW]; exact blkT
    have hLWb_x := kb_x.lt
    replace kb_n : Blk Wb (wa.heap.size) 67 #[.int .i64 u1, .int .i64 u2] := by rw [hW]; exact blkT
    have hLWb_n := kb_n.lt
    replace hr_s : Row2 Wb (w.heap.size + 1) (w1.heap.size) 69 3 A1 (l.length) c1 (t3s l) := by rw [hW]; exact rowT
    replace hr_o : Row2 Wb (g) (g + 1) 69 3 (some ⟨g, 0, none⟩) (q.length) c' (t3s q) := by rw [hW]; exact rowT
    try clear kc_m kf_m
    try clear kc_p kf_p
    try clear kc_x kf_x
    try clear kc_n kf_n
    clear hW
    refine (HT2.out _).mono ?_
    rintro e wb ⟨rfl, hb⟩
    unfold frRet
    replace hB := hB.trans (Below.mono hb hB.size)
    have hz_wb : Wb.heap.size ≤ wb.heap.size := Below.size hb
    replace kb_m := kb_m.mv hb; obtain ⟨kb_m, kc_m, kf_m, hl_m, hn_m⟩ := kb_m
    replace kb_p := kb_p.mv hb; obtain ⟨kb_p, kc_p, kf_p, hl_p, hn_p⟩ := kb_p
    replace kb_x := kb_x.mv hb; obtain ⟨kb_x, kc_x, kf_x, hl_x, hn_x⟩ := kb_x
    replace kb_n := kb_n.mv hb; obtain ⟨kb_n, kc_n, kf_n, hl_n, hn_n⟩ := kb_n
    replace hr_s := Row2.below hr_s hb (by omega)
    replace hr_o := Row2.below hr_o hb (by omega)
    clear hb
    have hxm : wr.heap.size ≠ w4.heap.size + 1 := by omega
    have hnm : wa.heap.size ≠ w4.heap.size + 1 := by omega
    have hnx : wa.heap.size ≠ wr.heap.size := by omega
    have hbm : wb.heap.size ≠ w4.heap.size + 1 := by omega
    have hxm' : w4.heap.size + 1 ≠ wr.heap.size := by omega
    have hxn' : wr.heap.size ≠ wa.heap.size := by omega
    rcases (show (mok && rok) = false ∨ (mok = true ∧ rok = true) by cases mok <;> cases rok <;> simp) with hb9 | ⟨rfl, rfl⟩
    ·have HR9 := Lib.hid (HBAD.out hb9)
     cases mok
     all_goals
      (try (have hrk : rok = false := by simpa using hb9))
      (try subst hrk)
      clear hb9
      go_wp2_with fail
      refine bodyPost_ret (v := .tuple #[.slice A1 l.length c1, .bool false]) ?_ rfl ?_
      ·simp [results, Tryz.results111, go_sem]
      ·rw [HR9.out]
       exact ⟨A1, c1, rfl, (Row2.mono (lo := w.heap.size + 1) (hi := w1.heap.size) (hi' := w1.heap.size) (by exact rowT) (by omega) (Nat.le_refl _)).1, by exact tacT⟩
    ·by_cases hr0 : 0 < r1
     ·have hr0' : decide (0 < r1) = true := by simpa using hr0
      go_wp2_with (at_builtin; refine wpList_appB rfl _ _ 33 rfl w4.heap.size 69 (.agg #[.int .i64 0, .int .i64 0, .int .i64 0]) 3 24 Tryz.underlying33 infoRight rfl (by decide) (.slice (some ⟨g, 0, none⟩) q.length c') q.length (t3s q) rfl ?_ _ _ 1 1 (t3s [⟨f, r1, r2⟩]) rfl (rd_blk (t := 69) ?_) (t3s_one _) (by omega) (by omega) ?_ ?_; (focus (exact (Row2.mono (lo' := w4.heap.size) (hi' := g + 1) ((by (repeat' (first | (with_reducible assumption) | (with_reducible refine Row2.far ?_ ?_ _) | (with_reducible refine Row2.alloc ?_ _) | (with_reducible refine Row2.drewN ?_ _) | (with_reducible refine Row2.drew ?_) | (left; dsimp only; omega) | (right; dsimp only; omega))); all_goals (dsimp only; omega)) : Row2 _ g (g + 1) 69 3 (some ⟨g, 0, none⟩) q.length c' (t3s q)) (by omega) (Nat.le_refl _)).1)); (focus (exact blkT)); (focus (first | omega | (simp; omega))); intro A9 c9 wq ho9 hg9 kb9)
      rw [← t3s_append] at ho9
      replace hg9 : World.grownBy _ wq (some g) := hg9
      have hm9 : Blk wq (w4.heap.size + 1) 67 #[.int .i64 u1, .int .i64 u2] := kb9 _ _ _ (by decide) (by exact blkT)
      have hp9 : Blk wq w.heap.size 67 #[.int .i64 a, .int .i64 b] := kb9 _ _ _ (by decide) (by exact blkT)
      have hs9 : Row2 wq (w.heap.size + 1) w1.heap.size 69 3 A1 l.length c1 (t3s l) := Row2.grown (by exact rowT) hg9 (.inr (by omega))
      have hB9 : Below w.heap.size w wq := Below.grown (by exact tacT) hg9 (by exact oT) (by intro j hj; have := Option.some.inj hj; omega)
      obtain ⟨g9, cur9, rfl, -⟩ := own_open ho9 (.inl (by omega))
      have hsn : cutAll (l.take (k + 1)) f r1 r2 = q ++ [⟨f, r1, r2⟩] := by rw [take_snocT HX.out, cutAll_snoc, ← HQ.out]; unfold one3; rw [if_pos HXF.out, if_pos hr0]
      have H9 := Lib.hid (And.intro ho9 (And.intro hm9 (And.intro hp9 (And.intro hs9 (And.intro hB9 hsn)))))
      clear ho9 hm9 hp9 hs9 hB9 hsn hg9 kb9
      go_wp2_with fail
      go_roundw
      case rel => exact ⟨k + 1, g9, c9, true, u1, u2, by omega, by rw [H9.out.2.2.2.2.2, List.length_append]; rfl, rfl, by go_num, by show true = _; rw [take_snocT HX.out, hasO_snoc]; rw [HNY.out.1, HXF.out]; simp, (fun _ => by simp), by rw [H9.out.2.2.2.2.2, List.length_append]; exact H9.out.1, H9.out.2.1, H9.out.2.2.1, H9.out.2.2.2.1, H9.out.2.2.2.2.1⟩
      case measure => simp [intOf]; omega
     ·have hr0' : decide (0 < r1) = false := by simpa using hr0
      have hsn : cutAll (l.take (k + 1)) f r1 r2 = q := by rw [take_snocT HX.out, cutAll_snoc, ← HQ.out]; unfold one3; rw [if_pos HXF.out, if_neg hr0]; simp
      have HSN := Lib.hid hsn
      clear hsn
      go_wp2_with fail
      go_roundw
      case rel =>
       refine ⟨k + 1, g, c', true, u1, u2, by omega, by rw [HSN.out], rfl, by go_num, by show true = _; rw [take_snocT HX.out, hasO_snoc]; rw [HNY.out.1, HXF.out]; simp, (fun _ => by simp), ?_, by exact blkT, by exact blkT, by exact rowT, by exact tacT⟩
       rw [HSN.out]
       exact (Row2.mono (lo' := w4.heap.size) (hi' := g + 1) ((by (repeat' (first | (with_reducible assumption) | (with_reducible refine Row2.far ?_ ?_ _) | (with_reducible refine Row2.alloc ?_ _) | (with_reducible refine Row2.drewN ?_ _) | (with_reducible refine Row2.drew ?_) | (left; dsimp only; omega) | (right; dsimp only; omega))); all_goals (dsimp only; omega)) : Row2 _ g (g + 1) 69 3 (some ⟨g, 0, none⟩) q.length c' (t3s q)) (by omega) (Nat.le_refl _)).1
      case measure => simp [intOf]; omega
   ·have hxd : (x.x == f) = false := by simp [hxf]
    have hxp : decide (0 < x.y) = true := by simp; omega
    have hgw : w4.heap.size ≤ g := (HO.out.lt g rfl).1
    have HXF := Lib.hid hxf
    clear hxf
    go_wp2_with (at_builtin; refine wpList_appB rfl _ _ 33 rfl w4.heap.size 69 (.agg #[.int .i64 0, .int .i64 0, .int .i64 0]) 3 24 Tryz.underlying33 infoRight rfl (by decide) (.slice (some ⟨g, 0, none⟩) q.length c') q.length (t3s q) rfl ?_ _ _ 1 1 (t3s [⟨x.x, x.y, x.z⟩]) rfl (rd_blk (t := 69) ?_) (t3s_one _) (by omega) (by omega) ?_ ?_; (focus (exact World.ownsRow.alloc (World.ownsRow.alloc HO.out _) _)); (focus (exact blkT)); (focus (first | omega | (simp; omega))); intro A9 c9 wq ho9 hg9 kb9)
    rw [← t3s_append] at ho9
    replace hg9 : World.grownBy _ wq (some g) := hg9
    have hm9 : Blk wq (w4.heap.size + 1) 67 #[.int .i64 v1, .int .i64 v2] := kb9 _ _ _ (by decide) (by exact blkT)
    have hp9 : Blk wq w.heap.size 67 #[.int .i64 a, .int .i64 b] := kb9 _ _ _ (by decide) (by exact blkT)
    have hs9 : Row2 wq (w.heap.size + 1) w1.heap.size 69 3 A1 l.length c1 (t3s l) := Row2.grown (by exact rowT) hg9 (.inr (by omega))
    have hB9 : Below w.heap.size w wq := Below.grown (by exact tacT) hg9 (by exact oT) (by intro j hj; have := Option.some.inj hj; omega)
    obtain ⟨g9, cur9, rfl, -⟩ := own_open ho9 (.inl (by omega))
    have hsn : cutAll (l.take (k + 1)) f r1 r2 = q ++ [⟨x.x, x.y, x.z⟩] := by rw [take_snocT HX.out, cutAll_snoc, ← HQ.out]; unfold one3; rw [if_neg HXF.out, if_pos (by omega)]
    have H9 := Lib.hid (And.intro ho9 (And.intro hm9 (And.intro hp9 (And.intro hs9 (And.intro hB9 hsn)))))
    clear ho9 hm9 hp9 hs9 hB9 hsn hg9 kb9
    go_wp2_with fail
    go_roundw
    case rel => exact ⟨k + 1, g9, c9, fd, v1, v2, by omega, by rw [H9.out.2.2.2.2.2, List.length_append]; rfl, rfl, by go_num, by show fd = _; rw [take_snocT HX.out, hasO_snoc]; rw [← HFD.out, beq_eq_false_iff_ne.2 HXF.out]; simp, HV.out, by rw [H9.out.2.2.2.2.2, List.length_append]; exact H9.out.1, H9.out.2.1, H9.out.2.2.1, H9.out.2.2.2.1, H9.out.2.2.2.2.1⟩
    case measure => simp [intOf]; omega
  ·obtain rfl : k = l.length := by omega
   cases fd
   ·have HR9 := Lib.hid (HNO.out (by have h9 := HFD.out; rw [List.take_length] at h9; exact h9.symm))
    go_wp2_with fail
    refine bodyPost_ret (v := .tuple #[.slice A1 l.length c1, .bool false]) ?_ rfl ?_
    ·simp [results, Tryz.results111, go_sem]
    ·rw [HR9.out]; exact ⟨A1, c1, rfl, (Row2.mono (lo := w.heap.size + 1) (hi := w1.heap.size) (hi' := w1.heap.size) (by exact rowT) (by omega) (Nat.le_refl _)).1, by exact tacT⟩
   ·obtain ⟨rfl, rfl, rfl, rfl⟩ := HV.out rfl
    have hyes : hasO l f = true := by have h9 := HFD.out; rw [List.take_length] at h9; exact h9.symm
    have hG := HGOOD.out hyes
    obtain ⟨hR, gs, hm, hr, hup, hall⟩ := HR.out
    have hqc : q = cutS l f r1 r2 := by
     rw [HQ.out, List.take_length]
     exact cutAll_cutS hup (fun e he => (hall e he).2.1) (fracOk_iff (mulF_ok hr)).1
    have hu1 := (fracOk_iff (mulF_ok hm)).1
    obtain ⟨p, hp⟩ : ∃ p, p = posA q t := ⟨_, rfl⟩
    have hpl : p ≤ q.length := by rw [hp]; exact posA_le q t
    have HE1 : Hid (∀ (e : T3) (s1 s2 : Int) (ok : Bool), q[p]? = some e → e.x = t → addF e.y e.z v1 v2 = (s1, s2, ok) → R = if ok && rightsOk (q.set p ⟨t, s1, s2⟩) then (q.set p ⟨t, s1, s2⟩, true) else (l, false)) := fun e s1 s2 ok he hx ha => by
     rw [hR, hp, hqc]; exact sellS_old hG gs hm hr (by rw [← hqc, ← hp]; exact he) hx ha
    have HE2 : Hid ((∀ e, q[p]? = some e → e.x ≠ t) → v1 ≠ 0 → R = if rightsOk (q.take p ++ ⟨t, v1, v2⟩ :: q.drop p) then (q.take p ++ ⟨t, v1, v2⟩ :: q.drop p, true) else (l, false)) := fun hn hu => by
     rw [hR]; exact sellS_new hG gs hm hr (by rw [← hqc, ← hp]; exact hn) hu _ (by rw [hp, hqc])
    have HE3 : Hid (v1 = 0 → R = if rightsOk q then (q, true) else (l, false)) := fun hu => by
     rw [hR, hqc]; exact sellS_not hG gs hm hr hu
    have HGO : Hid (∀ (k : Nat) (e : T3), k ≤ p → q[k]? = some e → (e.x < t → k + 1 ≤ p) ∧ (¬ e.x < t → k = p)) := fun k e hk he => by rw [hp] at hk ⊢; exact posA_go hk he
    have HEN : Hid (∀ k, k ≤ p → ¬ k < q.length → k = p) := fun k hk he => by rw [hp] at hk ⊢; exact posA_end hk he
    have HRK : Hid (∀ (W : World) (A : Option Addr) (c n : Nat) (r : List T3), r.length = n → Rd W W.heap.size 3 A n c (t3s r) → Calls Tryz.prog 79 #[.slice A n c] W fun e w' => e = .returned (.bool (rightsOk r)) ∧ Below W.heap.size W w') := fun W A c n r hn hr => by subst hn; exact RightsOkS_any A c r W hr
    have hrq : RdT wr wr.heap.size (some ⟨g, 0, none⟩) c' q := Rd.of_own HO.out
    have hqlc : (q.length : Int) ≤ (c' : Int) := by have := hrq.2.1; omega
    have hc'63 : c' ≤ 9223372036854775807 := hrq.2.2.1
    have HTR : Rd wr wr.heap.size 3 (some ⟨g, 0, none⟩) p c' (t3s (q.take p)) := by rw [t3s_take]; exact Rd.take hrq hpl
    have HDR : Rd wr wr.heap.size 3 (if c' = p then some ⟨g, 0, none⟩ else some ⟨g, p * 3, none⟩) (q.length - p) (c' - p) (t3s (q.drop p)) := by rw [t3s_drop]; exact Rd.drop hrq hpl
    have hgw : w4.heap.size ≤ g := (HO.out.lt g rfl).1
    have hgr : g < wr.heap.size := (HO.out.lt g rfl).2
    have hgm : g ≠ w4.heap.size + 1 := own_ne_blk HO.out kb_m (by decide)
    have hfzg : ∀ j, wr.frozen? ⟨g, j, none⟩ = false := fun j => HO.out.frozenAt j
    clear hyes hG hR gs hm hr hup hall hqc hp HNO HBAD HGOOD HV HFD HSH HPOS HT1 HT2
    go_wp2_with fail
    go_loop [20] (fun i => ∃ k2 : Nat, k2 ≤ p ∧ i = .int .i64 k2) (fun i => q.length + 1 - (intOf i).toNat)
    case atStart => exact ⟨0, Nat.zero_le _, rfl⟩
    case round =>
     obtain ⟨k2, hk2, rfl⟩ := hrel
     have hk20 : (0 : Int) ≤ (k2 : Int) := by omega
     by_cases hlt2 : k2 < q.length
     ·obtain ⟨bb, oo, e, hA9, hbb, he, e0, e1, e2⟩ := hrq.at_ hlt2
      simp only [Option.some.injEq, Addr.mk.injEq, and_true] at hA9
      obtain ⟨rfl, rfl⟩ := hA9
      rw [Nat.zero_add] at e0 e1 e2
      have hk21 : (k2 : Int) < (q.length : Int) := by omega
      have hk22 : decide ((k2 : Int) < (q.length : Int)) = true := by simpa using hk21
      obtain ⟨g1, g2⟩ := HGO.out k2 e hk2 he
      by_cases hxo : e.x < t
      ·have hxd : decide (e.x < t) = true := by simpa using hxo
       have g3 := g1 (by omega)
       clear g1 g2 he
       go_wp2_with fail
       go_round
       case rel => exact ⟨k2 + 1, g3, by go_num⟩
       case measure => simp [intOf]; omega
      ·have hxd : decide (e.x < t) = false := by simpa using hxo
       obtain rfl := g2 (by omega)
       clear g1 g2
       by_cases hxt : e.x = t
       ·have hxt' : (e.x == t) = true := by simp [hxt]
        obtain ⟨s1, s2, ok, ha⟩ : ∃ s1 s2 ok, addF e.y e.z v1 v2 = (s1, s2, ok) := ⟨_, _, _, rfl⟩
        have HAF : Hid (∀ W, Calls Tryz.prog 140 #[.agg #[.int .i64 e.y, .int .i64 e.z], .agg #[.int .i64 v1, .int .i64 v2]] W fun e w' => e = frRet (s1, s2, ok) ∧ Below W.heap.size W w') := fun W => by rw [← ha]; exact AddFractionsS_any _ _ _ _ W
        have HEE := Lib.hid (HE1.out e s1 s2 ok he hxt ha)
        have HEX := Lib.hid (And.intro he hxt)
        have hr_o := row_at HO.out
        clear ha he
        go_wp2_with fail
        have hlm := hl_m
        go_region_held3 (fun w' => w'.cell? ⟨w4.heap.size + 1, 0, none⟩ = some (.int .i64 v1) ∧ w'.cell? ⟨w4.heap.size + 1, 1, none⟩ = some (.int .i64 v2) ∧ w'.cell? ⟨g, k2 * 3 + 1, none⟩ = some (.int .i64 e.y) ∧ w'.cell? ⟨g, k2 * 3 + 2, none⟩ = some (.int .i64 e.z)) (first | (with_reducible exact ⟨kc_m 0, kc_m 1, e1, e2⟩) | (refine ⟨?_, ?_, ?_, ?_⟩ <;> simp [go_sem, kc_m 0, kc_m 1, e1, e2, hgr, hlm]; done) | (with_reducible exact ⟨y6_0, y6_1, y6_2, y6_3⟩) | (refine ⟨?_, ?_, ?_, ?_⟩ <;> simp [go_sem, y6_0, y6_1, y6_2, y6_3, hgr, hlm, n6_0, l6_0, n6_1, l6_1, n6_2, l6_2, n6_3, l6_3]; done) | exact ⟨kc_m 0, kc_m 1, e1, e2⟩)
         (((go_at_call 140; refine (HAF.out _).mono ?_; rintro e w6 ⟨rfl, hb6⟩; unfold frRet; have hB6 : Below w.heap.size w w6 := (by exact tacT); have hz6 : wr.heap.size ≤ w6.heap.size := (by have hzz := Below.size hb6; first | omega | (simp at hzz; omega)); have l6_0 : w4.heap.size + 1 < w6.heap.size := (by omega); have n6_0 := Nat.ne_of_lt l6_0; have y6_0 : w6.cell? ⟨w4.heap.size + 1, 0, none⟩ = some (.int .i64 v1) := (Below.cell hb6 (p := ⟨w4.heap.size + 1, 0, none⟩) (by first | (simp; done) | (simp; omega) | omega)).trans (by first | exact kc_m 0 | (simp [go_sem, kc_m 0, hgr, hlm]; done)); have l6_1 : w4.heap.size + 1 < w6.heap.size := (by omega); have n6_1 := Nat.ne_of_lt l6_1; have y6_1 : w6.cell? ⟨w4.heap.size + 1, 1, none⟩ = some (.int .i64 v2) := (Below.cell hb6 (p := ⟨w4.heap.size + 1, 1, none⟩) (by first | (simp; done) | (simp; omega) | omega)).trans (by first | exact kc_m 1 | (simp [go_sem, kc_m 1, hgr, hlm]; done)); have l6_2 : g < w6.heap.size := (by omega); have n6_2 := Nat.ne_of_lt l6_2; have y6_2 : w6.cell? ⟨g, k2 * 3 + 1, none⟩ = some (.int .i64 e.y) := (Below.cell hb6 (p := ⟨g, k2 * 3 + 1, none⟩) (by first | (simp; done) | (simp; omega) | omega)).trans (by first | exact e1 | (simp [go_sem, e1, hgr, hlm]; done)); have l6_3 : g < w6.heap.size := (by omega); have n6_3 := Nat.ne_of_lt l6_3; have y6_3 : w6.cell? ⟨g, k2 * 3 + 2, none⟩ = some (.int .i64 e.z) := (Below.cell hb6 (p := ⟨g, k2 * 3 + 2, none⟩) (by first | (simp; done) | (simp; omega) | omega)).trans (by first | exact e2 | (simp [go_sem, e2, hgr, hlm]; done)); try (have kb9 : Blk w6 wr.heap.size 67 #[.int .i64 0, .int .i64 0] := Blk.below (by exact blkT) hb6 (by exact sT); have kc9 := kb9.cells; have kf9 := kb9.frozens; have hl9 := kb9.lt; have hn9 := Nat.ne_of_lt hl9; have m0 : w4.heap.size + 1 ≠ wr.heap.size := (by omega); have k0 : wr.heap.size ≠ w4.heap.size + 1 := (by omega); have m1 : g ≠ wr.heap.size := (by omega); have k1 : wr.heap.size ≠ g := (by omega)))))
        all_goals
         have hr_s6 : Row2 w6 (w.heap.size + 1) w1.heap.size 69 3 A1 l.length c1 (t3s l) := Row2.below (by exact rowT) hb6 (by exact oT)
         have hr_o6 : Row2 w6 g (g + 1) 69 3 (some ⟨g, 0, none⟩) q.length c' (t3s q) := Row2.below (by exact rowT) hb6 (by exact oT)
         obtain ⟨g9, hg9, -, -, hfz6, -, -, -, -⟩ := own_setS hr_o6.1 HEX.out.1
         obtain rfl : g = g9 := by simpa using hg9
         have hg9w : g < w6.heap.size := by omega
         clear hb6 hg9 hr_s
         cases ok
         ·have HR9 : Hid (R = (l, false)) := HEE.out
          go_wp2_with fail
          refine bodyPost_ret (v := .tuple #[.slice A1 l.length c1, .bool false]) ?_ rfl ?_
          ·simp [results, Tryz.results111, go_sem]
          ·rw [HR9.out]
           exact ⟨A1, c1, rfl, (Row2.mono (lo := w.heap.size + 1) (hi := w1.heap.size) (hi' := w1.heap.size) (by exact rowT) (by omega) (Nat.le_refl _)).1, by exact tacT⟩
         ·go_wp2_with fail
          first | refine name_world ?_ | refine name_wp ?_
          intro W9 hW
          replace hB : Below w.heap.size w W9 := by rw [hW]; exact tacT
          have hz_W9 : w6.heap.size ≤ W9.heap.size := by rw [hW]; exact sT
          have hr_s : Row2 W9 (w.heap.size + 1) w1.heap.size 69 3 A1 l.length c1 (t3s l) := by rw [hW]; exact rowT
          have hr_z : Row2 W9 g (g + 1) 69 3 (some ⟨g, 0, none⟩) q.length c' (t3s (q.set k2 ⟨t, s1, s2⟩)) := by
           rw [hW, ← HEX.out.2]
           first
            |exact ⟨(own_store2 (base := g) (hi := g + 1) (by (repeat' (first | (with_reducible assumption) | (with_reducible refine Row2.far ?_ ?_ _) | (with_reducible refine Row2.alloc ?_ _) | (with_reducible refine Row2.drewN ?_ _) | (with_reducible refine Row2.drew ?_) | (left; dsimp only; omega) | (right; dsimp only; omega))); all_goals (dsimp only; omega)) HEX.out.1 s1 s2).1, fun j hj => by have h9 : g = j := Option.some.inj hj; omega⟩
            |exact Row2.alloc ⟨(own_store2 (base := g) (hi := g + 1) (by (repeat' (first | (with_reducible assumption) | (with_reducible refine Row2.far ?_ ?_ _) | (with_reducible refine Row2.alloc ?_ _) | (with_reducible refine Row2.drewN ?_ _) | (with_reducible refine Row2.drew ?_) | (left; dsimp only; omega) | (right; dsimp only; omega))); all_goals (dsimp only; omega)) HEX.out.1 s1 s2).1, fun j hj => by have h9 : g = j := Option.some.inj hj; omega⟩ _
          clear hW hr_s6 hr_o6
          refine (HRK.out _ _ _ _ _ List.length_set hr_z.rd).mono ?_
          rintro e wz ⟨rfl, hb⟩
          replace hB := hB.trans (Below.mono hb hB.size)
          have hz_wz : W9.heap.size ≤ wz.heap.size := Below.size hb
          replace hr_s := Row2.below hr_s hb (by omega)
          replace hr_z := Row2.below hr_z hb (by omega)
          clear hb
          cases hok : rightsOk (q.set k2 ⟨t, s1, s2⟩)
          ·have HR9 : Hid (R = (l, false)) := by have h9 := HEE.out; rw [hok] at h9; exact h9
           clear hok
           go_wp2_with fail
           refine bodyPost_ret (v := .tuple #[.slice A1 l.length c1, .bool false]) ?_ rfl ?_
           ·simp [results, Tryz.results111, go_sem]
           ·rw [HR9.out]
            exact ⟨A1, c1, rfl, (Row2.mono (lo := w.heap.size + 1) (hi := w1.heap.size) (hi' := w1.heap.size) (by exact rowT) (by omega) (Nat.le_refl _)).1, by exact tacT⟩
          ·have HR9 : Hid (R = (q.set k2 ⟨t, s1, s2⟩, true)) := by have h9 := HEE.out; rw [hok] at h9; exact h9
           clear hok
           go_wp2_with fail
           refine bodyPost_ret (v := .tuple #[.slice (some ⟨g, 0, none⟩) q.length c', .bool true]) ?_ rfl ?_
           ·simp [results, Tryz.results111, go_sem]
           ·rw [HR9.out]
            exact ⟨some ⟨g, 0, none⟩, c', by simp only [List.length_set], by simp only [List.length_set]; exact (Row2.mono (lo' := w.heap.size) (hi' := wz.heap.size) hr_z (by omega) (by omega)).1, by exact tacT⟩
       ·have hxt' : (e.x == t) = false := by simp [hxt]
        have hkc : (k2 : Int) ≤ (c' : Int) := by omega
        have hkq : (k2 : Int) ≤ (q.length : Int) := by omega
        have hne : ∀ e', q[k2]? = some e' → e'.x ≠ t := fun e' h9 => by rw [he] at h9; rw [← Option.some.inj h9]; exact hxt
        clear he
        by_cases hu0 : 0 < v1
        ·have hu0' : decide (0 < v1) = true := by simpa using hu0
         have hu9 : v1 ≠ 0 := by omega
         have HEE := Lib.hid (HE2.out hne hu9)
         clear hne
         go_wp2_with fail
         go_region_held3 (fun w' => w'.cell? ⟨w4.heap.size + 1, 0, none⟩ = some (.int .i64 v1) ∧ w'.cell? ⟨w4.heap.size + 1, 1, none⟩ = some (.int .i64 v2)) (first | (refine ⟨(Below.cell (B := wr.heap.size) (w := wr) (p := ⟨w4.heap.size + 1, 0, none⟩) ?_ (by show w4.heap.size + 1 < wr.heap.size; omega)).trans (kb_m.cell 0), (Below.cell (B := wr.heap.size) (w := wr) (p := ⟨w4.heap.size + 1, 1, none⟩) ?_ (by show w4.heap.size + 1 < wr.heap.size; omega)).trans (kb_m.cell 1)⟩ <;> (repeat' (first | (with_reducible exact Below.refl _ _) | (with_reducible assumption) | (with_reducible refine Below.alloc ?_ ?_ _) | (with_reducible refine Below.setCell ?_ ?_ _) | (with_reducible refine Below.drew ?_) | (with_reducible refine below_drewN ?_ _) | (refine Below.trans ?_ (Below.mono (by with_reducible assumption) ?_)) | omega | (simp; done) | (simp; omega)))))
          ((first | (refine step_appB rfl _ _ 33 rfl wr.heap.size 69 (.agg #[.int .i64 0, .int .i64 0, .int .i64 0]) 3 24 Tryz.underlying33 infoRight rfl (Nat.le_of_ble_eq_true rfl) (.slice Ab (k2 + 1) cb) (k2 + 1) (t3s (q.take k2 ++ [⟨t, v1, v2⟩])) rfl ?_ _ _ (q.length - k2) (c' - k2) (t3s (q.drop k2)) rfl (Rd.keep (B := wr.heap.size) HDR (fun j hj => Below.cell (B := wr.heap.size) ?_ hj)) (t3s_one _) ?_ ?_ ?_ ?_; (focus ((repeat' (first | (with_reducible assumption) | (with_reducible refine World.ownsRow.alloc ?_ _) | (with_reducible refine World.ownsRow.drew ?_))); done)); (focus (exact tacT)); omega; omega; (focus (first | omega | (simp; done) | (simp; omega))); intro Ac cc wc hoc hgc kc9; rw [← t3s_append, List.append_assoc, List.singleton_append] at hoc; have hzc := hgc.size; have hBc : Below wr.heap.size wr wc := Below.grown (by exact tacT) hgc (by exact ooT) (fun j hj => (hob.lt j hj).1)) | (refine step_appB rfl _ _ 33 rfl wr.heap.size 69 (.agg #[.int .i64 0, .int .i64 0, .int .i64 0]) 3 24 Tryz.underlying33 infoRight rfl (Nat.le_of_ble_eq_true rfl) (.slice Aa k2 ca) k2 (t3s (q.take k2)) rfl ?_ _ _ 1 1 (t3s [⟨t, v1, v2⟩]) rfl (rd_blk (t := 69) ?_) (t3s_one _) ?_ ?_ ?_ ?_; (focus ((repeat' (first | (with_reducible assumption) | (with_reducible refine World.ownsRow.alloc ?_ _) | (with_reducible refine World.ownsRow.drew ?_))); done)); (focus ((repeat' (first | (with_reducible assumption) | (with_reducible refine ka _ _ _ ?_ ?_) | (with_reducible refine Blk.drew ?_) | (with_reducible refine Blk.new' _ _ _ _ ?_; (first | rfl | omega | (simp; done))) | (with_reducible refine Blk.alloc ?_ _) | (intro h9; have h8 := Option.some.inj h9; first | omega | (simp at h8; done) | (simp at h8; omega)) | omega)); done)); omega; omega; (focus (first | omega | (simp; done) | (simp; omega))); intro Ab cb wb hob hgb kb; rw [← t3s_append] at hob; have hzb := hgb.size; have hBb : Below wr.heap.size wr wb := Below.grown (by exact tacT) hgb (by exact ooT) (fun j hj => (hoa.lt j hj).1); have hzb' := hBb.size) | (refine step_appE rfl _ _ 33 rfl wr.heap.size 69 (.agg #[.int .i64 0, .int .i64 0, .int .i64 0]) 3 24 Tryz.underlying33 infoRight rfl (Nat.le_of_ble_eq_true rfl) _ rfl ?_ wr.heap.size (some ⟨g, 0, none⟩) k2 c' (t3s (q.take k2)) rfl (Rd.keep (B := wr.heap.size) HTR (fun j hj => Below.cell (B := wr.heap.size) ?_ hj)) (t3s_one _) ?_ ?_ ?_ ?_; (focus ((repeat' (first | (refine ownEmpty' _ _ _ _ _ ?_ ?_; (focus (simp; done)); (focus (first | omega | (simp; done) | (simp; omega)))) | (with_reducible refine World.ownsRow.alloc ?_ _) | (with_reducible refine World.ownsRow.drew ?_))); done)); (focus (exact tacT)); omega; omega; (focus (first | omega | (simp; done) | (simp; omega))); intro Aa ca wa hoa hga; have ka := keep_row hga; have hza := hga.size; have hBa : Below wr.heap.size wr wa := Below.grown (by exact tacT) hga (by exact ooT) (fun j hj => by have h9 := Option.some.inj hj; first | omega | (simp at h9; omega)); have hza' := hBa.size)))
         all_goals
          have hr_z := Row2.born hoc
          replace hr_s := Row2.below hr_s hBc (by omega)
          replace hB := hB.trans (hBc.mono hB.size)
          have hzz := hBc.size
          clear hoc
          have hlen9 : (q.take k2 ++ ⟨t, v1, v2⟩ :: q.drop k2).length = k2 + 1 + (q.length - k2) := by rw [List.length_append, List.length_cons, List.length_take, List.length_drop]; omega
          go_wp2_with fail
          all_goals
           refine (HRK.out _ _ _ _ _ hlen9 hr_z.rd).mono ?_
           rintro e wz ⟨rfl, hb⟩
           replace hB := hB.trans (Below.mono hb hB.size)
           have hz_wz : wc.heap.size ≤ wz.heap.size := Below.size hb
           replace hr_s := Row2.below hr_s hb (by omega)
           replace hr_z := Row2.below hr_z hb (by omega)
           clear hb
           cases hok : rightsOk (q.take k2 ++ ⟨t, v1, v2⟩ :: q.drop k2)
           ·have HR9 : Hid (R = (l, false)) := by have h9 := HEE.out; rw [hok] at h9; exact h9
            clear hok
            go_wp2_with fail
            refine bodyPost_ret (v := .tuple #[.slice A1 l.length c1, .bool false]) ?_ rfl ?_
            ·simp [results, Tryz.results111, go_sem]
            ·rw [HR9.out]
             exact ⟨A1, c1, rfl, (Row2.mono (lo := w.heap.size + 1) (hi := w1.heap.size) (hi' := w1.heap.size) (by exact rowT) (by omega) (Nat.le_refl _)).1, by exact tacT⟩
           ·have HR9 : Hid (R = (q.take k2 ++ ⟨t, v1, v2⟩ :: q.drop k2, true)) := by have h9 := HEE.out; rw [hok] at h9; exact h9
            clear hok
            go_wp2_with fail
            refine bodyPost_ret (v := .tuple #[.slice Ac (k2 + 1 + (q.length - k2)) cc, .bool true]) ?_ rfl ?_
            ·simp [results, Tryz.results111, go_sem]
            ·rw [HR9.out]
             exact ⟨Ac, cc, by simp only [hlen9], by simp only [hlen9]; exact (Row2.mono (lo' := w.heap.size) (hi' := wz.heap.size) hr_z (by omega) (by omega)).1, by exact tacT⟩
        ·have hu0' : decide (0 < v1) = false := by simpa using hu0
         have HEE := Lib.hid (HE3.out (by omega))
         clear hne
         go_wp2_with fail
         have hr_z := row_at HO.out
         refine (HRK.out _ _ _ _ _ rfl (Rd.of_own HO.out)).mono ?_
         rintro e wz ⟨rfl, hb⟩
         replace hB := hB.trans (Below.mono hb hB.size)
         have hz_wz : wr.heap.size ≤ wz.heap.size := Below.size hb
         replace hr_s := Row2.below hr_s hb (by omega)
         replace hr_z := Row2.below hr_z hb (by omega)
         clear hb
         cases hok : rightsOk (q)
         ·have HR9 : Hid (R = (l, false)) := by have h9 := HEE.out; rw [hok] at h9; exact h9
          clear hok
          go_wp2_with fail
          refine bodyPost_ret (v := .tuple #[.slice A1 l.length c1, .bool false]) ?_ rfl ?_
          ·simp [results, Tryz.results111, go_sem]
          ·rw [HR9.out]
           exact ⟨A1, c1, rfl, (Row2.mono (lo := w.heap.size + 1) (hi := w1.heap.size) (hi' := w1.heap.size) (by exact rowT) (by omega) (Nat.le_refl _)).1, by exact tacT⟩
         ·have HR9 : Hid (R = (q, true)) := by have h9 := HEE.out; rw [hok] at h9; exact h9
          clear hok
          go_wp2_with fail
          refine bodyPost_ret (v := .tuple #[.slice (some ⟨g, 0, none⟩) q.length c', .bool true]) ?_ rfl ?_
          ·simp [results, Tryz.results111, go_sem]
          ·rw [HR9.out]
           exact ⟨some ⟨g, 0, none⟩, c', rfl, (Row2.mono (lo' := w.heap.size) (hi' := wz.heap.size) hr_z (by omega) (by omega)).1, by exact tacT⟩
     ·have hk21 : ¬ (k2 : Int) < (q.length : Int) := by omega
      have hk22 : decide ((k2 : Int) < (q.length : Int)) = false := by simpa using hk21
      obtain rfl := HEN.out k2 hk2 hlt2
      have hkc : (k2 : Int) ≤ (c' : Int) := by omega
      have hkq : (k2 : Int) ≤ (q.length : Int) := by omega
      have hne : ∀ e', q[k2]? = some e' → e'.x ≠ t := fun e' h9 => by have := (List.getElem?_eq_some_iff.1 h9).1; omega
      by_cases hu0 : 0 < v1
      ·have hu0' : decide (0 < v1) = true := by simpa using hu0
       have hu9 : v1 ≠ 0 := by omega
       have HEE := Lib.hid (HE2.out hne hu9)
       clear hne
       go_wp2_with fail
       go_region_held3 (fun w' => w'.cell? ⟨w4.heap.size + 1, 0, none⟩ = some (.int .i64 v1) ∧ w'.cell? ⟨w4.heap.size + 1, 1, none⟩ = some (.int .i64 v2)) (first | (refine ⟨(Below.cell (B := wr.heap.size) (w := wr) (p := ⟨w4.heap.size + 1, 0, none⟩) ?_ (by show w4.heap.size + 1 < wr.heap.size; omega)).trans (kb_m.cell 0), (Below.cell (B := wr.heap.size) (w := wr) (p := ⟨w4.heap.size + 1, 1, none⟩) ?_ (by show w4.heap.size + 1 < wr.heap.size; omega)).trans (kb_m.cell 1)⟩ <;> (repeat' (first | (with_reducible exact Below.refl _ _) | (with_reducible assumption) | (with_reducible refine Below.alloc ?_ ?_ _) | (with_reducible refine Below.setCell ?_ ?_ _) | (with_reducible refine Below.drew ?_) | (with_reducible refine below_drewN ?_ _) | (refine Below.trans ?_ (Below.mono (by with_reducible assumption) ?_)) | omega | (simp; done) | (simp; omega)))))
        ((first | (refine step_appB rfl _ _ 33 rfl wr.heap.size 69 (.agg #[.int .i64 0, .int .i64 0, .int .i64 0]) 3 24 Tryz.underlying33 infoRight rfl (Nat.le_of_ble_eq_true rfl) (.slice Ab (k2 + 1) cb) (k2 + 1) (t3s (q.take k2 ++ [⟨t, v1, v2⟩])) rfl ?_ _ _ (q.length - k2) (c' - k2) (t3s (q.drop k2)) rfl (Rd.keep (B := wr.heap.size) HDR (fun j hj => Below.cell (B := wr.heap.size) ?_ hj)) (t3s_one _) ?_ ?_ ?_ ?_; (focus ((repeat' (first | (with_reducible assumption) | (with_reducible refine World.ownsRow.alloc ?_ _) | (with_reducible refine World.ownsRow.drew ?_))); done)); (focus (exact tacT)); omega; omega; (focus (first | omega | (simp; done) | (simp; omega))); intro Ac cc wc hoc hgc kc9; rw [← t3s_append, List.append_assoc, List.singleton_append] at hoc; have hzc := hgc.size; have hBc : Below wr.heap.size wr wc := Below.grown (by exact tacT) hgc (by exact ooT) (fun j hj => (hob.lt j hj).1)) | (refine step_appB rfl _ _ 33 rfl wr.heap.size 69 (.agg #[.int .i64 0, .int .i64 0, .int .i64 0]) 3 24 Tryz.underlying33 infoRight rfl (Nat.le_of_ble_eq_true rfl) (.slice Aa k2 ca) k2 (t3s (q.take k2)) rfl ?_ _ _ 1 1 (t3s [⟨t, v1, v2⟩]) rfl (rd_blk (t := 69) ?_) (t3s_one _) ?_ ?_ ?_ ?_; (focus ((repeat' (first | (with_reducible assumption) | (with_reducible refine World.ownsRow.alloc ?_ _) | (with_reducible refine World.ownsRow.drew ?_))); done)); (focus ((repeat' (first | (with_reducible assumption) | (with_reducible refine ka _ _ _ ?_ ?_) | (with_reducible refine Blk.drew ?_) | (with_reducible refine Blk.new' _ _ _ _ ?_; (first | rfl | omega | (simp; done))) | (with_reducible refine Blk.alloc ?_ _) | (intro h9; have h8 := Option.some.inj h9; first | omega | (simp at h8; done) | (simp at h8; omega)) | omega)); done)); omega; omega; (focus (first | omega | (simp; done) | (simp; omega))); intro Ab cb wb hob hgb kb; rw [← t3s_append] at hob; have hzb := hgb.size; have hBb : Below wr.heap.size wr wb := Below.grown (by exact tacT) hgb (by exact ooT) (fun j hj => (hoa.lt j hj).1); have hzb' := hBb.size) | (refine step_appE rfl _ _ 33 rfl wr.heap.size 69 (.agg #[.int .i64 0, .int .i64 0, .int .i64 0]) 3 24 Tryz.underlying33 infoRight rfl (Nat.le_of_ble_eq_true rfl) _ rfl ?_ wr.heap.size (some ⟨g, 0, none⟩) k2 c' (t3s (q.take k2)) rfl (Rd.keep (B := wr.heap.size) HTR (fun j hj => Below.cell (B := wr.heap.size) ?_ hj)) (t3s_one _) ?_ ?_ ?_ ?_; (focus ((repeat' (first | (refine ownEmpty' _ _ _ _ _ ?_ ?_; (focus (simp; done)); (focus (first | omega | (simp; done) | (simp; omega)))) | (with_reducible refine World.ownsRow.alloc ?_ _) | (with_reducible refine World.ownsRow.drew ?_))); done)); (focus (exact tacT)); omega; omega; (focus (first | omega | (simp; done) | (simp; omega))); intro Aa ca wa hoa hga; have ka := keep_row hga; have hza := hga.size; have hBa : Below wr.heap.size wr wa := Below.grown (by exact tacT) hga (by exact ooT) (fun j hj => by have h9 := Option.some.inj hj; first | omega | (simp at h9; omega)); have hza' := hBa.size)))
       all_goals
        have hr_z := Row2.born hoc
        replace hr_s := Row2.below hr_s hBc (by omega)
        replace hB := hB.trans (hBc.mono hB.size)
        have hzz := hBc.size
        clear hoc
        have hlen9 : (q.take k2 ++ ⟨t, v1, v2⟩ :: q.drop k2).length = k2 + 1 + (q.length - k2) := by rw [List.length_append, List.length_cons, List.length_take, List.length_drop]; omega
        go_wp2_with fail
        all_goals
         refine (HRK.out _ _ _ _ _ hlen9 hr_z.rd).mono ?_
         rintro e wz ⟨rfl, hb⟩
         replace hB := hB.trans (Below.mono hb hB.size)
         have hz_wz : wc.heap.size ≤ wz.heap.size := Below.size hb
         replace hr_s := Row2.below hr_s hb (by omega)
         replace hr_z := Row2.below hr_z hb (by omega)
         clear hb
         cases hok : rightsOk (q.take k2 ++ ⟨t, v1, v2⟩ :: q.drop k2)
         ·have HR9 : Hid (R = (l, false)) := by have h9 := HEE.out; rw [hok] at h9; exact h9
          clear hok
          go_wp2_with fail
          refine bodyPost_ret (v := .tuple #[.slice A1 l.length c1, .bool false]) ?_ rfl ?_
          ·simp [results, Tryz.results111, go_sem]
          ·rw [HR9.out]
           exact ⟨A1, c1, rfl, (Row2.mono (lo := w.heap.size + 1) (hi := w1.heap.size) (hi' := w1.heap.size) (by exact rowT) (by omega) (Nat.le_refl _)).1, by exact tacT⟩
         ·have HR9 : Hid (R = (q.take k2 ++ ⟨t, v1, v2⟩ :: q.drop k2, true)) := by have h9 := HEE.out; rw [hok] at h9; exact h9
          clear hok
          go_wp2_with fail
          refine bodyPost_ret (v := .tuple #[.slice Ac (k2 + 1 + (q.length - k2)) cc, .bool true]) ?_ rfl ?_
          ·simp [results, Tryz.results111, go_sem]
          ·rw [HR9.out]
           exact ⟨Ac, cc, by simp only [hlen9], by simp only [hlen9]; exact (Row2.mono (lo' := w.heap.size) (hi' := wz.heap.size) hr_z (by omega) (by omega)).1, by exact tacT⟩
      ·have hu0' : decide (0 < v1) = false := by simpa using hu0
       have HEE := Lib.hid (HE3.out (by omega))
       clear hne
       go_wp2_with fail
       have hr_z := row_at HO.out
       refine (HRK.out _ _ _ _ _ rfl (Rd.of_own HO.out)).mono ?_
       rintro e wz ⟨rfl, hb⟩
       replace hB := hB.trans (Below.mono hb hB.size)
       have hz_wz : wr.heap.size ≤ wz.heap.size := Below.size hb
       replace hr_s := Row2.below hr_s hb (by omega)
       replace hr_z := Row2.below hr_z hb (by omega)
       clear hb
       cases hok : rightsOk (q)
       ·have HR9 : Hid (R = (l, false)) := by have h9 := HEE.out; rw [hok] at h9; exact h9
        clear hok
        go_wp2_with fail
        refine bodyPost_ret (v := .tuple #[.slice A1 l.length c1, .bool false]) ?_ rfl ?_
        ·simp [results, Tryz.results111, go_sem]
        ·rw [HR9.out]
         exact ⟨A1, c1, rfl, (Row2.mono (lo := w.heap.size + 1) (hi := w1.heap.size) (hi' := w1.heap.size) (by exact rowT) (by omega) (Nat.le_refl _)).1, by exact tacT⟩
       ·have HR9 : Hid (R = (q, true)) := by have h9 := HEE.out; rw [hok] at h9; exact h9
        clear hok
        go_wp2_with fail
        refine bodyPost_ret (v := .tuple #[.slice (some ⟨g, 0, none⟩) q.length c', .bool true]) ?_ rfl ?_
        ·simp [results, Tryz.results111, go_sem]
        ·rw [HR9.out]
         exact ⟨some ⟨g, 0, none⟩, c', rfl, (Row2.mono (lo' := w.heap.size) (hi' := wz.heap.size) hr_z (by omega) (by omega)).1, by exact tacT⟩
theorem SellShareS_any (A : Option Addr) (c : Nat) (l : List T3) (f t a b : Int) (w : World) (h : RdT w w.heap.size A c l) (hs : l.length ≤ 1048576) :
  Calls Tryz.prog 111 #[.slice A l.length c, .int .i64 f, .int .i64 t, .agg #[.int .i64 a, .int .i64 b]] w (SellRet (sellF l f t a b) w) := by
 cases g1 : rightsOk l
 ·rw [sellG_no (by rw [g1]; simp)]; exact SellShareS_no1 A c l f t a b w h hs g1
 cases g5 : fracOk a b
 ·rw [sellG_no (by rw [g5]; simp)]; exact SellShareS_no2 A c l f t a b w h hs g1 g5
 by_cases g6 : b < a
 ·rw [sellG_no (by intro h9; omega)]; exact SellShareS_no3 A c l f t a b w h hs g1 g5 g6
 by_cases g3 : f = t
 ·rw [sellG_no (by simp [g3])]; exact SellShareS_no4 A c l f t a b w h hs g1 g5 (by omega) g3
 cases g4 : inB t 1 999
 ·rw [sellG_no (by rw [g4]; simp)]; exact SellShareS_no5 A c l f t a b w h hs g1 g5 (by omega) g3 g4
 exact SellShareS_yes A c l f t a b w h hs g1 g5 (by omega) g3 g4 _ _ rfl _ _ _ _ _ _ rfl rfl
end
end Go.Proofs.YtpmmjhpmheooeaaGreatDoor
