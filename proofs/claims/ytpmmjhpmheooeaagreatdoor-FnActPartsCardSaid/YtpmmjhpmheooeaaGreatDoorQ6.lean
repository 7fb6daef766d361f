/- Texts of the proof, joined: Enter0, EnterS, Drunk. -/
import Derived.Test.YtpmmjhpmheooeaaGreatDoorQ5
import Derived.Test.YtpmmjhpmheooeaaGreatDoorQ1
namespace Go.Proofs.YtpmmjhpmheooeaaGreatDoor
set_option linter.unusedSimpArgs false
set_option linter.unusedVariables false
section
open Go.RowKit
set_option maxRecDepth 20000
def enterOk (b : Bk) (e : T3) : Bool := bookOk b && decide (b.evs.length < 40) && (runEv b.room (b.evs ++ [e]) b.start 0 0 0).2.2.2.2
def enter (b : Bk) (e : T3) : Bk × Bool := if enterOk b e then (madeBk b.room b.start (b.evs ++ [e]), true) else (b, false)
theorem rd_blk {w : World} {g : Nat} {t : TypeId} {x y z : Int} (h : Blk w g t #[.int .i64 x, .int .i64 y, .int .i64 z]) : Rd w w.heap.size 3 (some ⟨g, 0, none⟩) 1 1 (t3s [⟨x, y, z⟩]) :=
 ⟨rfl, Nat.le_refl _, by omega, fun _ => ⟨g, 0, rfl, h.lt, fun j u hu => by
  rw [Nat.zero_add, h.cell]
  match j, hu with
  |0, hu => exact hu
  |1, hu => exact hu
  |2, hu => exact hu⟩⟩
/-- A block of another type is no row's block. -/
theorem blk_keep {w w' : World} {base : Nat} {e t : TypeId} {sz n c g : Nat} {A : Option Addr} {xs : List Value} {cs : Array Value} (h : w.ownsRow base e sz (.slice A n c) n xs) (hg : w.grownBy w' (Value.slice A n c).ownBlock) (hne : e ≠ t) (hk : Blk w g t cs) : Blk w' g t cs :=
 hk.grown hg fun he => by
  rcases h.2 with ⟨hn, _⟩ | ⟨b, cap, cur, hv, _, hh, _⟩
  ·rw [hn] at he; cases he
  ·rw [hv] at he
   simp only [Value.ownBlock, Option.some.injEq] at he
   subst he
   unfold Blk at hk
   rw [hk] at hh
   injection hh with hh
   injection hh with _ ht
   exact hne ht.symm
theorem keep_below {w w' : World} (h : Below w.heap.size w w') : ∀ g t cs, Blk w g t cs → Blk w' g t cs := fun _ _ _ k => k.below h k.lt
theorem keep_none {w w' : World} {n c : Nat} (h : w.grownBy w' (Value.slice none n c).ownBlock) : ∀ g t cs, Blk w g t cs → Blk w' g t cs := fun _ _ _ k => k.grown h (fun he => by cases he)
theorem step_appB {P : Program} {w : World} {ops : Array Oper} {o : Oper} {a : Act} {K : Act → World → Prop} {Q : Exit → Act → World → Prop} {E : Prop} (hgd : o.guard = none) (s x : Operand) (t : TypeId)
  (ho : o.op = .call { callee := .builtin .append, args := #[s, x], argTypes := #[t, t] })
  (base : Nat) (e : TypeId) (z : Value) (size bytes : Nat) (ht : P.underlying t = some (.slice e)) (hinfo : (P.info? e).map (fun i => (i.zero, i.size, i.bytes)) = some (some z, size, bytes))
  (hzs : z.cells.size = size) (hsz : 0 < size)
  (v : Value) (n : Nat) (xs : List Value) (hs : a.eval s = v) (hown : w.ownsRow base e size v n xs)
  (B : Nat) (A : Option Addr) (m c : Nat) (news : List Value) (hx : a.eval x = .slice A m c) (hr : Rd w B size A m c news) (h1 : ∀ u ∈ news, u.oneCell' = true)
  (h63 : n + m ≤ 9223372036854775807) (hbytes : (n + m) * bytes ≤ 140737488355328) (hbase : base ≤ w.heap.size)
  (h : ∀ A' c' w', w'.ownsRow base e size (.slice A' (n + m) c') (n + m) (xs ++ news) → w.grownBy w' v.ownBlock → (∀ g t cs, e ≠ t → Blk w g t cs → Blk w' g t cs) → K (a.put o.dst (.slice A' (n + m) c')) w') : if Region.wanted o (yielded ops a.tmps) = true then Oper.wp P o a w K Q else E :=
 step_appAll hgd s x t ho base e z size bytes ht hinfo hzs hsz v n xs hs hown B A m c news hx hr h1 h63 hbytes hbase fun A' c' w' h2 h3 => h A' c' w' h2 h3 (fun g t cs hne hk => by
  rcases hown.2 with ⟨hn, _⟩ | ⟨b, cap, cur, hv, hg, hh, r⟩
  ·exact hk.grown h3 (fun he => by rw [hn] at he; cases he)
  ·subst hv
   exact blk_keep hown h3 hne hk)
theorem step_appN {P : Program} {w : World} {ops : Array Oper} {o : Oper} {a : Act} {K : Act → World → Prop} {Q : Exit → Act → World → Prop} {E : Prop} (hgd : o.guard = none) (s x : Operand) (t : TypeId)
  (ho : o.op = .call { callee := .builtin .append, args := #[s, x], argTypes := #[t, t] })
  (base : Nat) (e : TypeId) (z : Value) (size bytes : Nat) (ht : P.underlying t = some (.slice e)) (hinfo : (P.info? e).map (fun i => (i.zero, i.size, i.bytes)) = some (some z, size, bytes))
  (hzs : z.cells.size = size) (hsz : 0 < size)
  (hs : a.eval s = .slice none 0 0)
  (B : Nat) (A : Option Addr) (m c : Nat) (news : List Value) (hx : a.eval x = .slice A m c) (hr : Rd w B size A m c news) (h1 : ∀ u ∈ news, u.oneCell' = true)
  (h63 : m ≤ 9223372036854775807) (hbytes : m * bytes ≤ 140737488355328) (hbase : base ≤ w.heap.size)
  (h : ∀ A' c' w', w'.ownsRow base e size (.slice A' m c') m news → w.grownBy w' none → (∀ g t cs, Blk w g t cs → Blk w' g t cs) → K (a.put o.dst (.slice A' m c')) w') : if Region.wanted o (yielded ops a.tmps) = true then Oper.wp P o a w K Q else E :=
 step_appAll hgd s x t ho base e z size bytes ht hinfo hzs hsz (.slice none 0 0) 0 [] hs (World.ownsRow_nil _ _ _ _) B A m c news hx hr h1 (by omega) (by rw [Nat.zero_add]; exact hbytes) hbase fun A' c' w' h2 h3 => by
  rw [Nat.zero_add] at h2 ⊢
  exact h A' c' w' h2 h3 (keep_none h3)
theorem wpList_appB {P : Program} {w : World} {ops : Array Oper} {rest : List Oper} {o : Oper} {a : Act} {Q : Exit → Act → World → Prop} (hgd : o.guard = none) (s x : Operand) (t : TypeId)
  (ho : o.op = .call { callee := .builtin .append, args := #[s, x], argTypes := #[t, t] })
  (base : Nat) (e : TypeId) (z : Value) (size bytes : Nat) (ht : P.underlying t = some (.slice e)) (hinfo : (P.info? e).map (fun i => (i.zero, i.size, i.bytes)) = some (some z, size, bytes))
  (hzs : z.cells.size = size) (hsz : 0 < size)
  (v : Value) (n : Nat) (xs : List Value) (hs : a.eval s = v) (hown : w.ownsRow base e size v n xs)
  (B : Nat) (A : Option Addr) (m c : Nat) (news : List Value) (hx : a.eval x = .slice A m c) (hr : Rd w B size A m c news) (h1 : ∀ u ∈ news, u.oneCell' = true)
  (h63 : n + m ≤ 9223372036854775807) (hbytes : (n + m) * bytes ≤ 140737488355328) (hbase : base ≤ w.heap.size)
  (h : ∀ A' c' w', w'.ownsRow base e size (.slice A' (n + m) c') (n + m) (xs ++ news) → w.grownBy w' v.ownBlock → (∀ g t cs, e ≠ t → Blk w g t cs → Blk w' g t cs) → wpList P ops Q rest (a.put o.dst (.slice A' (n + m) c')) w') : wpList P ops Q (o :: rest) a w :=
 wpList_appAll hgd s x t ho base e z size bytes ht hinfo hzs hsz v n xs hs hown B A m c news hx hr h1 h63 hbytes hbase fun A' c' w' h2 h3 => h A' c' w' h2 h3 (fun g t cs hne hk => by
  rcases hown.2 with ⟨hn, _⟩ | ⟨b, cap, cur, hv, hg, hh, r⟩
  ·exact hk.grown h3 (fun he => by rw [hn] at he; cases he)
  ·subst hv
   exact blk_keep hown h3 hne hk)
theorem enter_count {b : Bk} {e : T3} {R1 R2 R3 R4 : Int} {ok : Bool} (hq : bookOk b = true) (hR : countBk b.room b.start (b.evs ++ [e]) = (R1, R2, R3, R4, ok)) : enter b e = if ok then (⟨b.room, b.start, b.evs ++ [e], R1, R2, R3, R4⟩, true) else (b, false) := by
 obtain ⟨i1, i2, i3, i4⟩ := bookOk_iff hq
 unfold enter enterOk madeBk
 by_cases h40 : b.evs.length < 40
 ·rw [countBk_yes i1 i2 (by rw [List.length_append]; simp; omega)] at hR
  rw [hR, hq]
  simp [h40]
 ·rw [countBk_no (.inr (.inr (by rw [List.length_append]; simp; omega)))] at hR
  simp only [Prod.mk.injEq] at hR
  rw [← hR.2.2.2.2]
  simp [h40]
end
section
open Go.RowKit
set_option maxRecDepth 20000
set_option maxHeartbeats 3200000 in
theorem EnterS_no (A : Option Addr) (c : Nat) (b : Bk) (ek el eo : Int) (w : World) (h : RdT w w.heap.size A c b.evs) (hs : b.evs.length ≤ 1048576) (hq : bookOk b = false) :
  Calls Tryz.prog 121 #[b.val A c, .agg #[.int .i64 ek, .int .i64 el, .int .i64 eo]] w (BkRet (enter b ⟨ek, el, eo⟩) w) := by
 have hB := Below.refl w.heap.size w
 obtain ⟨hl, hm⟩ := h.le
 have hcall := fun (W : World) (hb : Below w.heap.size w W) => BookOkS_any A c b W (h.below hb) hs
 have hcopy := fun (W : World) (hb : Below w.heap.size w W) => l37Copy_any A c b W (h.below hb) hs
 have hst : enter b ⟨ek, el, eo⟩ = (b, false) := by unfold enter enterOk; rw [hq]; simp
 rw [hst]
 unfold BkRet
 rw [hq] at hcall
 unfold Bk.val at hcall hcopy ⊢
 obtain ⟨room, start, l, lv, ra, dr, lo⟩ := b
 simp only at h hl hcall hcopy ⊢
 have H1 := Lib.hid hcall
 have H2 := Lib.hid hcopy
 clear hcall hcopy hq hst
 go_enter Tryz.func121, Tryz.ntmps121
 go_wp2_with fail
 first | refine name_world ?_ | refine name_wp ?_
 intro W1 hW
 replace hB : Below w.heap.size w W1 := by rw [hW]; exact tacT
 have hz_W1 : w.heap.size ≤ W1.heap.size := by rw [hW]; exact sT
 replace kb_p : Blk W1 (w.heap.size) 32 #[.int .i64 room, .int .i64 start, .slice A l.length c, .int .i64 lv, .int .i64 ra, .int .i64 dr, .int .i64 lo] := by rw [hW]; exact blkT
 have hLW1_p := kb_p.lt
 replace kb_q : Blk W1 (w.heap.size + 1) 120 #[.int .i64 ek, .int .i64 el, .int .i64 eo] := by rw [hW]; exact blkT
 have hLW1_q := kb_q.lt
 replace kb_r : Blk W1 (w.heap.size + 2) 32 #[.int .i64 0, .int .i64 0, .slice none 0 0, .int .i64 0, .int .i64 0, .int .i64 0, .int .i64 0] := by rw [hW]; exact blkT
 have hLW1_r := kb_r.lt
 try clear kc_p kf_p
 try clear kc_q kf_q
 try clear kc_r kf_r
 clear hW
 refine (H1.out _ hB).mono ?_
 rintro e w1 ⟨rfl, hb⟩
 replace hB := hB.trans (Below.mono hb hB.size)
 have hz_w1 : W1.heap.size ≤ w1.heap.size := Below.size hb
 replace kb_p := kb_p.mv hb; obtain ⟨kb_p, kc_p, kf_p, hl_p, hn_p⟩ := kb_p
 replace kb_q := kb_q.mv hb; obtain ⟨kb_q, kc_q, kf_q, hl_q, hn_q⟩ := kb_q
 replace kb_r := kb_r.mv hb; obtain ⟨kb_r, kc_r, kf_r, hl_r, hn_r⟩ := kb_r
 clear hb
 go_wp2_with fail
 refine (H2.out _ hB).mono ?_
 rintro e w2 ⟨A2, c2, rfl, ho2, hb⟩
 have hr_e := Row2.born ho2
 clear ho2
 replace hB := hB.trans (Below.mono hb hB.size)
 have hz_w2 : w1.heap.size ≤ w2.heap.size := Below.size hb
 replace kb_p := kb_p.mv hb; obtain ⟨kb_p, kc_p, kf_p, hl_p, hn_p⟩ := kb_p
 replace kb_q := kb_q.mv hb; obtain ⟨kb_q, kc_q, kf_q, hl_q, hn_q⟩ := kb_q
 replace kb_r := kb_r.mv hb; obtain ⟨kb_r, kc_r, kf_r, hl_r, hn_r⟩ := kb_r
 clear hb
 go_wp2_with fail
 refine bodyPost_ret (v := .tuple #[.agg #[.int .i64 room, .int .i64 start, .slice A2 l.length c2, .int .i64 lv, .int .i64 ra, .int .i64 dr, .int .i64 lo], .bool false]) ?_ rfl ?_
 ·simp [results, Tryz.results121, go_sem, kc_r]
 ·exact ⟨A2, c2, rfl, (Row2.mono (lo := w1.heap.size) (hi := w2.heap.size) (hi' := w2.heap.size) (by exact rowT) (by omega) (Nat.le_refl _)).1, by exact tacT⟩
set_option maxHeartbeats 6400000 in
theorem EnterS_bad (A : Option Addr) (c : Nat) (b : Bk) (ek el eo : Int) (w : World) (h : RdT w w.heap.size A c b.evs) (hs : b.evs.length ≤ 1048576) (hq : bookOk b = true) (R1 R2 R3 R4 : Int) (hR : countBk b.room b.start (b.evs ++ [⟨ek, el, eo⟩]) = (R1, R2, R3, R4, false)) :
  Calls Tryz.prog 121 #[b.val A c, .agg #[.int .i64 ek, .int .i64 el, .int .i64 eo]] w (BkRet (enter b ⟨ek, el, eo⟩) w) := by
 have hB := Below.refl w.heap.size w
 obtain ⟨hl, hm⟩ := h.le
 have hcall := fun (W : World) (hb : Below w.heap.size w W) => BookOkS_any A c b W (h.below hb) hs
 have hcopy := fun (W : World) (hb : Below w.heap.size w W) => l37Copy_any A c b W (h.below hb) hs
 have hst : enter b ⟨ek, el, eo⟩ = (b, false) := by rw [enter_count hq hR]; rfl
 have hcnt := fun (Ab : Option Addr) (cb : Nat) (lv0 r0 d0 l0 : Int) (W : World) (h : Rd W W.heap.size 3 Ab (b.evs.length + 1) cb (t3s (b.evs ++ [⟨ek, el, eo⟩]))) => l37Count_any Ab cb b.room b.start lv0 r0 d0 l0 (b.evs ++ [⟨ek, el, eo⟩]) W (by unfold RdT; rw [List.length_append]; exact h) (by obtain ⟨_, _, i3, _⟩ := bookOk_iff hq; rw [List.length_append]; simp; omega)
 rw [hR] at hcnt
 simp only [List.length_append, List.length_cons, List.length_nil, Nat.zero_add] at hcnt
 rw [hst]
 unfold BkRet
 rw [hq] at hcall
 unfold Bk.val at hcall hcopy ⊢
 obtain ⟨room, start, l, lv, ra, dr, lo⟩ := b
 simp only at h hl hs hcall hcopy hcnt hR ⊢
 
 have H1 := Lib.hid hcall
 have H2 := Lib.hid hcopy
 have HCNT := Lib.hid hcnt
 clear hcall hcopy hcnt hq hst hR
 go_enter Tryz.func121, Tryz.ntmps121
 go_wp2_with fail
 first | refine name_world ?_ | refine name_wp ?_
 intro W1 hW
 replace hB : Below w.heap.size w W1 := by rw [hW]; exact tacT
 have hz_W1 : w.heap.size ≤ W1.heap.size := by rw [hW]; exact sT
 replace kb_p : Blk W1 (w.heap.size) 32 #[.int .i64 room, .int .i64 start, .slice A l.length c, .int .i64 lv, .int .i64 ra, .int .i64 dr, .int .i64 lo] := by rw [hW]; exact blkT
 have hLW1_p := kb_p.lt
 replace kb_q : Blk W1 (w.heap.size + 1) 120 #[.int .i64 ek, .int .i64 el, .int .i64 eo] := by rw [hW]; exact blkT
 have hLW1_q := kb_q.lt
 replace kb_r : Blk W1 (w.heap.size + 2) 32 #[.int .i64 0, .int .i64 0, .slice none 0 0, .int .i64 0, .int .i64 0, .int .i64 0, .int .i64 0] := by rw [hW]; exact blkT
 have hLW1_r := kb_r.lt
 try clear kc_p kf_p
 try clear kc_q kf_q
 try clear kc_r kf_r
 clear hW
 refine (H1.out _ hB).mono ?_
 rintro e w1 ⟨rfl, hb⟩
 replace hB := hB.trans (Below.mono hb hB.size)
 have hz_w1 : W1.heap.size ≤ w1.heap.size := Below.size hb
 replace kb_p := kb_p.mv hb; obtain ⟨kb_p, kc_p, kf_p, hl_p, hn_p⟩ := kb_p
 replace kb_q := kb_q.mv hb; obtain ⟨kb_q, kc_q, kf_q, hl_q, hn_q⟩ := kb_q
 replace kb_r := kb_r.mv hb; obtain ⟨kb_r, kc_r, kf_r, hl_r, hn_r⟩ := kb_r
 clear hb
 go_wp2_with fail
 refine (H2.out _ hB).mono ?_
 rintro e w2 ⟨A2, c2, rfl, ho2, hb⟩
 have hr_e := Row2.born ho2
 clear ho2
 replace hB := hB.trans (Below.mono hb hB.size)
 have hz_w2 : w1.heap.size ≤ w2.heap.size := Below.size hb
 replace kb_p := kb_p.mv hb; obtain ⟨kb_p, kc_p, kf_p, hl_p, hn_p⟩ := kb_p
 replace kb_q := kb_q.mv hb; obtain ⟨kb_q, kc_q, kf_q, hl_q, hn_q⟩ := kb_q
 replace kb_r := kb_r.mv hb; obtain ⟨kb_r, kc_r, kf_r, hl_r, hn_r⟩ := kb_r
 clear hb
 go_wp2_with (at_builtin; refine wpList_appB rfl _ _ 30 rfl w1.heap.size 120 (.agg #[.int .i64 0, .int .i64 0, .int .i64 0]) 3 24 Tryz.underlying30 infoEv rfl (by decide) (.slice A2 l.length c2) l.length (t3s l) rfl ?_ _ _ 1 1 (t3s [⟨ek, el, eo⟩]) rfl (rd_blk (t := 120) ?_) (t3s_one _) (by omega) (by omega) ?_ ?_; (focus (exact (Row2.mono (lo := w1.heap.size) (hi := w2.heap.size) (hi' := w2.heap.size) (by exact rowT) (Nat.le_refl _) (Nat.le_refl _)).1)); (focus (exact blkT)); (focus (first | omega | (simp; omega))); intro A3 c3 w3 ho3 hg3 kb; rw [← t3s_append] at ho3; have hB3 : Below w.heap.size w w3 := Below.grown (by exact tacT) hg3 (by exact oT) (fun k hk => by have := (hr_e.1.lt k hk).1; omega); have hz3 : w2.heap.size ≤ w3.heap.size := (by have := hg3.size; first | omega | (simp at this; omega)); replace kb_p : Blk w3 (w.heap.size) 32 #[.int .i64 room, .int .i64 start, .slice A l.length c, .int .i64 lv, .int .i64 ra, .int .i64 dr, .int .i64 lo] := kb _ _ _ (by decide) (by exact blkT); replace kb_r : Blk w3 (w.heap.size + 2) 32 #[.int .i64 0, .int .i64 0, .slice none 0 0, .int .i64 0, .int .i64 0, .int .i64 0, .int .i64 0] := kb _ _ _ (by decide) (by exact blkT); have kb_x : Blk w3 (w2.heap.size) 32 #[.int .i64 room, .int .i64 start, .slice A2 l.length c2, .int .i64 lv, .int .i64 ra, .int .i64 dr, .int .i64 lo] := kb _ _ _ (by decide) (by exact blkT); replace hB := hB3; have kc_p := kb_p.cells; have kf_p := kb_p.frozens; have hl_p := kb_p.lt; have hn_p := Nat.ne_of_lt kb_p.lt; have kc_r := kb_r.cells; have kf_r := kb_r.frozens; have hl_r := kb_r.lt; have hn_r := Nat.ne_of_lt kb_r.lt; have kc_x := kb_x.cells; have kf_x := kb_x.frozens; have hl_x := kb_x.lt; have hn_x := Nat.ne_of_lt kb_x.lt)
 clear kb hg3 hB3 hr_e
 go_wp2_with fail
 first | refine name_world ?_ | refine name_wp ?_
 intro W4 hW
 replace hB : Below w.heap.size w W4 := by rw [hW]; exact tacT
 have hz4 : w3.heap.size ≤ W4.heap.size := by rw [hW]; exact sT
 replace kb_p : Blk W4 (w.heap.size) 32 #[.int .i64 room, .int .i64 start, .slice A l.length c, .int .i64 lv, .int .i64 ra, .int .i64 dr, .int .i64 lo] := by rw [hW]; exact blkT
 replace kb_r : Blk W4 (w.heap.size + 2) 32 #[.int .i64 0, .int .i64 0, .slice none 0 0, .int .i64 0, .int .i64 0, .int .i64 0, .int .i64 0] := by rw [hW]; exact blkT
 replace ho3 : W4.ownsRow w1.heap.size 120 3 (.slice A3 (l.length + 1) c3) (l.length + 1) (t3s (l ++ [⟨ek, el, eo⟩])) := by rw [hW]; exact own_set_blk ho3 kb_x (by decide) 2 _
 replace kb_x : Blk W4 (w2.heap.size) 32 #[.int .i64 room, .int .i64 start, .slice A3 (l.length + 1) c3, .int .i64 lv, .int .i64 ra, .int .i64 dr, .int .i64 lo] := by rw [hW]; exact kb_x.set_ 2 _
 clear hW
 have hro := Rd.of_own ho3
 have hr_f := Row2.born ho3
 have HRO := Lib.hid hro
 clear hro ho3
 refine (HCNT.out _ _ _ _ _ _ _ HRO.out).mono ?_
 rintro e w5 ⟨A5, c5, rfl, ho5, hb⟩
 have hr_g := Row2.born ho5
 clear ho5
 replace hB := hB.trans (Below.mono hb hB.size)
 have hz_w5 : W4.heap.size ≤ w5.heap.size := Below.size hb
 replace kb_p := kb_p.mv hb; obtain ⟨kb_p, kc_p, kf_p, hl_p, hn_p⟩ := kb_p
 replace kb_r := kb_r.mv hb; obtain ⟨kb_r, kc_r, kf_r, hl_r, hn_r⟩ := kb_r
 replace kb_x := kb_x.mv hb; obtain ⟨kb_x, kc_x, kf_x, hl_x, hn_x⟩ := kb_x
 clear hb
 go_wp2_with fail
 first | refine name_world ?_ | refine name_wp ?_
 intro W6 hW
 replace hB : Below w.heap.size w W6 := by rw [hW]; exact tacT
 have hz_W6 : w5.heap.size ≤ W6.heap.size := by rw [hW]; exact sT
 replace kb_p : Blk W6 (w.heap.size) 32 #[.int .i64 room, .int .i64 start, .slice A l.length c, .int .i64 lv, .int .i64 ra, .int .i64 dr, .int .i64 lo] := by rw [hW]; exact blkT
 have hLW6_p := kb_p.lt
 replace kb_r : Blk W6 (w.heap.size + 2) 32 #[.int .i64 0, .int .i64 0, .slice none 0 0, .int .i64 0, .int .i64 0, .int .i64 0, .int .i64 0] := by rw [hW]; exact blkT
 have hLW6_r := kb_r.lt
 try clear kc_p kf_p
 try clear kc_r kf_r
 clear hW
 refine (H2.out _ hB).mono ?_
 rintro e w7 ⟨A7, c7, rfl, ho7, hb⟩
 have hr_e := Row2.born ho7
 clear ho7
 replace hB := hB.trans (Below.mono hb hB.size)
 have hz_w7 : W6.heap.size ≤ w7.heap.size := Below.size hb
 replace kb_p := kb_p.mv hb; obtain ⟨kb_p, kc_p, kf_p, hl_p, hn_p⟩ := kb_p
 replace kb_r := kb_r.mv hb; obtain ⟨kb_r, kc_r, kf_r, hl_r, hn_r⟩ := kb_r
 clear hb
 go_wp2_with fail
 refine bodyPost_ret (v := .tuple #[.agg #[.int .i64 room, .int .i64 start, .slice A7 l.length c7, .int .i64 lv, .int .i64 ra, .int .i64 dr, .int .i64 lo], .bool false]) ?_ rfl ?_
 ·simp [results, Tryz.results121, go_sem, kc_r]
 ·exact ⟨A7, c7, rfl, (Row2.mono (lo := W6.heap.size) (hi := w7.heap.size) (hi' := w7.heap.size) (by exact rowT) (by omega) (Nat.le_refl _)).1, by exact tacT⟩
set_option maxHeartbeats 6400000 in
theorem EnterS_good (A : Option Addr) (c : Nat) (b : Bk) (ek el eo : Int) (w : World) (h : RdT w w.heap.size A c b.evs) (hs : b.evs.length ≤ 1048576) (hq : bookOk b = true) (R1 R2 R3 R4 : Int) (hR : countBk b.room b.start (b.evs ++ [⟨ek, el, eo⟩]) = (R1, R2, R3, R4, true)) :
  Calls Tryz.prog 121 #[b.val A c, .agg #[.int .i64 ek, .int .i64 el, .int .i64 eo]] w (BkRet (enter b ⟨ek, el, eo⟩) w) := by
 have hB := Below.refl w.heap.size w
 obtain ⟨hl, hm⟩ := h.le
 have hcall := fun (W : World) (hb : Below w.heap.size w W) => BookOkS_any A c b W (h.below hb) hs
 have hcopy := fun (W : World) (hb : Below w.heap.size w W) => l37Copy_any A c b W (h.below hb) hs
 have hst : enter b ⟨ek, el, eo⟩ = (⟨b.room, b.start, b.evs ++ [⟨ek, el, eo⟩], R1, R2, R3, R4⟩, true) := by rw [enter_count hq hR]; rfl
 have hcnt := fun (Ab : Option Addr) (cb : Nat) (lv0 r0 d0 l0 : Int) (W : World) (h : Rd W W.heap.size 3 Ab (b.evs.length + 1) cb (t3s (b.evs ++ [⟨ek, el, eo⟩]))) => l37Count_any Ab cb b.room b.start lv0 r0 d0 l0 (b.evs ++ [⟨ek, el, eo⟩]) W (by unfold RdT; rw [List.length_append]; exact h) (by obtain ⟨_, _, i3, _⟩ := bookOk_iff hq; rw [List.length_append]; simp; omega)
 rw [hR] at hcnt
 simp only [List.length_append, List.length_cons, List.length_nil, Nat.zero_add] at hcnt
 rw [hst]
 unfold BkRet
 rw [hq] at hcall
 unfold Bk.val at hcall hcopy ⊢
 obtain ⟨room, start, l, lv, ra, dr, lo⟩ := b
 simp only at h hl hs hcall hcopy hcnt hR ⊢
 simp only [List.length_append, List.length_cons, List.length_nil, Nat.zero_add]
 have H1 := Lib.hid hcall
 have H2 := Lib.hid hcopy
 have HCNT := Lib.hid hcnt
 clear hcall hcopy hcnt hq hst hR
 go_enter Tryz.func121, Tryz.ntmps121
 go_wp2_with fail
 first | refine name_world ?_ | refine name_wp ?_
 intro W1 hW
 replace hB : Below w.heap.size w W1 := by rw [hW]; exact tacT
 have hz_W1 : w.heap.size ≤ W1.heap.size := by rw [hW]; exact sT
 replace kb_p : Blk W1 (w.heap.size) 32 #[.int .i64 room, .int .i64 start, .slice A l.length c, .int .i64 lv, .int .i64 ra, .int .i64 dr, .int .i64 lo] := by rw [hW]; exact blkT
 have hLW1_p := kb_p.lt
 replace kb_q : Blk W1 (w.heap.size + 1) 120 #[.int .i64 ek, .int .i64 el, .int .i64 eo] := by rw [hW]; exact blkT
 have hLW1_q := kb_q.lt
 replace kb_r : Blk W1 (w.heap.size + 2) 32 #[.int .i64 0, .int .i64 0, .slice none 0 0, .int .i64 0, .int .i64 0, .int .i64 0, .int .i64 0] := by rw [hW]; exact blkT
 have hLW1_r := kb_r.lt
 try clear kc_p kf_p
 try clear kc_q kf_q
 try clear kc_r kf_r
 clear hW
 refine (H1.out _ hB).mono ?_
 rintro e w1 ⟨rfl, hb⟩
 replace hB := hB.trans (Below.mono hb hB.size)
 have hz_w1 : W1.heap.size ≤ w1.heap.size := Below.size hb
 replace kb_p := kb_p.mv hb; obtain ⟨kb_p, kc_p, kf_p, hl_p, hn_p⟩ := kb_p
 replace kb_q := kb_q.mv hb; obtain ⟨kb_q, kc_q, kf_q, hl_q, hn_q⟩ := kb_q
 replace kb_r := kb_r.mv hb; obtain ⟨kb_r, kc_r, kf_r, hl_r, hn_r⟩ := kb_r
 clear hb
 go_wp2_with fail
 refine (H2.out _ hB).mono ?_
 rintro e w2 ⟨A2, c2, rfl, ho2, hb⟩
 have hr_e := Row2.born ho2
 clear ho2
 replace hB := hB.trans (Below.mono hb hB.size)
 have hz_w2 : w1.heap.size ≤ w2.heap.size := Below.size hb
 replace kb_p := kb_p.mv hb; obtain ⟨kb_p, kc_p, kf_p, hl_p, hn_p⟩ := kb_p
 replace kb_q := kb_q.mv hb; obtain ⟨kb_q, kc_q, kf_q, hl_q, hn_q⟩ := kb_q
 replace kb_r := kb_r.mv hb; obtain ⟨kb_r, kc_r, kf_r, hl_r, hn_r⟩ := kb_r
 clear hb
 go_wp2_with (at_builtin; refine wpList_appB rfl _ _ 30 rfl w1.heap.size 120 (.agg #[.int .i64 0, .int .i64 0, .int .i64 0]) 3 24 Tryz.underlying30 infoEv rfl (by decide) (.slice A2 l.length c2) l.length (t3s l) rfl ?_ _ _ 1 1 (t3s [⟨ek, el, eo⟩]) rfl (rd_blk (t := 120) ?_) (t3s_one _) (by omega) (by omega) ?_ ?_; (focus (exact (Row2.mono (lo := w1.heap.size) (hi := w2.heap.size) (hi' := w2.heap.size) (by exact rowT) (Nat.le_refl _) (Nat.le_refl _)).1)); (focus (exact blkT)); (focus (first | omega | (simp; omega))); intro A3 c3 w3 ho3 hg3 kb; rw [← t3s_append] at ho3; have hB3 : Below w.heap.size w w3 := Below.grown (by exact tacT) hg3 (by exact oT) (fun k hk => by have := (hr_e.1.lt k hk).1; omega); have hz3 : w2.heap.size ≤ w3.heap.size := (by have := hg3.size; first | omega | (simp at this; omega)); replace kb_p : Blk w3 (w.heap.size) 32 #[.int .i64 room, .int .i64 start, .slice A l.length c, .int .i64 lv, .int .i64 ra, .int .i64 dr, .int .i64 lo] := kb _ _ _ (by decide) (by exact blkT); replace kb_r : Blk w3 (w.heap.size + 2) 32 #[.int .i64 0, .int .i64 0, .slice none 0 0, .int .i64 0, .int .i64 0, .int .i64 0, .int .i64 0] := kb _ _ _ (by decide) (by exact blkT); have kb_x : Blk w3 (w2.heap.size) 32 #[.int .i64 room, .int .i64 start, .slice A2 l.length c2, .int .i64 lv, .int .i64 ra, .int .i64 dr, .int .i64 lo] := kb _ _ _ (by decide) (by exact blkT); replace hB := hB3; have kc_p := kb_p.cells; have kf_p := kb_p.frozens; have hl_p := kb_p.lt; have hn_p := Nat.ne_of_lt kb_p.lt; have kc_r := kb_r.cells; have kf_r := kb_r.frozens; have hl_r := kb_r.lt; have hn_r := Nat.ne_of_lt kb_r.lt; have kc_x := kb_x.cells; have kf_x := kb_x.frozens; have hl_x := kb_x.lt; have hn_x := Nat.ne_of_lt kb_x.lt)
 clear kb hg3 hB3 hr_e
 go_wp2_with fail
 first | refine name_world ?_ | refine name_wp ?_
 intro W4 hW
 replace hB : Below w.heap.size w W4 := by rw [hW]; exact tacT
 have hz4 : w3.heap.size ≤ W4.heap.size := by rw [hW]; exact sT
 replace kb_p : Blk W4 (w.heap.size) 32 #[.int .i64 room, .int .i64 start, .slice A l.length c, .int .i64 lv, .int .i64 ra, .int .i64 dr, .int .i64 lo] := by rw [hW]; exact blkT
 replace kb_r : Blk W4 (w.heap.size + 2) 32 #[.int .i64 0, .int .i64 0, .slice none 0 0, .int .i64 0, .int .i64 0, .int .i64 0, .int .i64 0] := by rw [hW]; exact blkT
 replace ho3 : W4.ownsRow w1.heap.size 120 3 (.slice A3 (l.length + 1) c3) (l.length + 1) (t3s (l ++ [⟨ek, el, eo⟩])) := by rw [hW]; exact own_set_blk ho3 kb_x (by decide) 2 _
 replace kb_x : Blk W4 (w2.heap.size) 32 #[.int .i64 room, .int .i64 start, .slice A3 (l.length + 1) c3, .int .i64 lv, .int .i64 ra, .int .i64 dr, .int .i64 lo] := by rw [hW]; exact kb_x.set_ 2 _
 clear hW
 have hro := Rd.of_own ho3
 have hr_f := Row2.born ho3
 have HRO := Lib.hid hro
 clear hro ho3
 refine (HCNT.out _ _ _ _ _ _ _ HRO.out).mono ?_
 rintro e w5 ⟨A5, c5, rfl, ho5, hb⟩
 have hr_g := Row2.born ho5
 clear ho5
 replace hB := hB.trans (Below.mono hb hB.size)
 have hz_w5 : W4.heap.size ≤ w5.heap.size := Below.size hb
 replace kb_p := kb_p.mv hb; obtain ⟨kb_p, kc_p, kf_p, hl_p, hn_p⟩ := kb_p
 replace kb_r := kb_r.mv hb; obtain ⟨kb_r, kc_r, kf_r, hl_r, hn_r⟩ := kb_r
 replace kb_x := kb_x.mv hb; obtain ⟨kb_x, kc_x, kf_x, hl_x, hn_x⟩ := kb_x
 clear hb
 go_wp2_with fail
 refine bodyPost_ret (v := .tuple #[.agg #[.int .i64 room, .int .i64 start, .slice A5 (l.length + 1) c5, .int .i64 R1, .int .i64 R2, .int .i64 R3, .int .i64 R4], .bool true]) ?_ rfl ?_
 ·simp [results, Tryz.results121, go_sem, kc_r, hl_r, hn_r]
 ·exact ⟨A5, c5, rfl, (Row2.mono (lo := W4.heap.size) (hi := w5.heap.size) (hi' := w5.heap.size) (by exact rowT) (by omega) (Nat.le_refl _)).1, by exact tacT⟩
theorem EnterS_any (A : Option Addr) (c : Nat) (b : Bk) (ek el eo : Int) (w : World) (h : RdT w w.heap.size A c b.evs) (hs : b.evs.length ≤ 1048576) :
  Calls Tryz.prog 121 #[b.val A c, .agg #[.int .i64 ek, .int .i64 el, .int .i64 eo]] w (BkRet (enter b ⟨ek, el, eo⟩) w) := by
 cases hq : bookOk b
 ·exact EnterS_no A c b ek el eo w h hs hq
 obtain ⟨R1, R2, R3, R4, ok, hR⟩ : ∃ R1 R2 R3 R4 ok, countBk b.room b.start (b.evs ++ [⟨ek, el, eo⟩]) = (R1, R2, R3, R4, ok) := ⟨_, _, _, _, _, rfl⟩
 cases ok
 ·exact EnterS_bad A c b ek el eo w h hs hq R1 R2 R3 R4 hR
 ·exact EnterS_good A c b ek el eo w h hs hq R1 R2 R3 R4 hR
end
section
open Go.RowKit
def drunkGo (kk : Int) : List T3 → Int → Int
 | [], n => n
 |t :: r, n => drunkGo kk r (if t.x = 2 ∧ t.z = kk then wrap64 (n + t.y) else n)
theorem drunkGo_cons (kk : Int) (t : T3) (r : List T3) (n : Int) : drunkGo kk (t :: r) n = drunkGo kk r (if t.x = 2 ∧ t.z = kk then wrap64 (n + t.y) else n) := rfl
def drunkBy (b : Bk) (kk : Int) : Int := if bookOk b = true then drunkGo kk b.evs 0 else -1
set_option maxHeartbeats 1600000 in
theorem DrunkBy_any (A : Option Addr) (c : Nat) (b : Bk) (kk : Int) (w : World) (h : RdT w w.heap.size A c b.evs) :
  Calls Tryz.prog 73 #[b.val A c, .int .i64 kk] w fun e w' => e = .returned (.int .i64 (drunkBy b kk)) ∧ Below w.heap.size w w' := by
 obtain ⟨hl, hm⟩ := h.le
 have hcall := fun (W : World) (hb : Below w.heap.size w W) => BookOk_any A c b W (h.below hb)
 obtain ⟨R, hR⟩ : ∃ R, R = drunkBy b kk := ⟨_, rfl⟩
 rw [← hR]
 unfold drunkBy at hR
 cases hq : bookOk b
 ·rw [hq] at hcall hR
  obtain ⟨room, start, l, lv, ra, dr, lo⟩ := b
  unfold Bk.val at hcall ⊢
  simp only at h hl hcall ⊢
  have HCALL := Lib.hid (And.intro hcall hR); clear hcall hR hq
  go_enter Tryz.func73, Tryz.ntmps73
  go_wp2_with (go_at_call 62; refine (HCALL.out.1 _ (by exact tacT)).mono ?_; rintro e w1 ⟨rfl, hb1⟩; have hz1 := hb1.size; have hz2 : w.heap.size < w1.heap.size := (by simp at hz1; omega))
  go_ret
  exact ⟨ret_int HCALL.out.2.symm, by exact tacT⟩
 rw [hq] at hcall hR
 obtain ⟨room, start, l, lv, ra, dr, lo⟩ := b
 unfold Bk.val at hcall ⊢
 simp only [if_true] at h hl hcall hR ⊢
 have HCALL := Lib.hid (And.intro hcall hR); clear hcall hR hq
 go_enter Tryz.func73, Tryz.ntmps73
 go_wp2_with (go_at_call 62; refine (HCALL.out.1 _ (by exact tacT)).mono ?_; rintro e w1 ⟨rfl, hb1⟩; have hz1 := hb1.size; have hz2 : w.heap.size < w1.heap.size := (by simp at hz1; omega); have hB1 : Below w.heap.size w w1 := (by exact tacT); obtain ⟨hc1, hf1⟩ := bcell hb1; have k2 : w1.cell? ⟨w.heap.size, 2, none⟩ = some (.slice A l.length c) := (by rw [hc1 _ _ (by simp)]; simp [go_sem]); clear hc1 hf1)
 go_loopw [5, 14] (fun n i wr => ∃ (k : Nat) (m : Int), k ≤ l.length ∧ i = .int .i64 k ∧ n = .int .i64 m ∧ drunkGo kk (l.drop k) m = R ∧ Below w.heap.size w wr) (fun _ i _ => l.length - (intOf i).toNat)
 case atStart => exact ⟨0, 0, Nat.zero_le _, rfl, rfl, HCALL.out.2.symm, hB1⟩
 case round =>
  obtain ⟨k, m, hk, rfl, rfl, hr, hB⟩ := hrel
  by_cases hlt : k < l.length
  ·obtain ⟨b, o, t, rfl, hbb, hx, e0, e1, e2⟩ := h.at_ hlt
   have f0 : wr.cell? ⟨b, o + k * 3, none⟩ = some (.int .i64 t.x) := (hB.cell (p := ⟨b, _, none⟩) hbb).trans e0
   have f1 : wr.cell? ⟨b, o + k * 3 + 1, none⟩ = some (.int .i64 t.y) := (hB.cell (p := ⟨b, _, none⟩) hbb).trans e1
   have f2 : wr.cell? ⟨b, o + k * 3 + 2, none⟩ = some (.int .i64 t.z) := (hB.cell (p := ⟨b, _, none⟩) hbb).trans e2
   clear e0 e1 e2
   have hwz := hB.size
   have hbr : b < wr.heap.size := by omega
   rw [drop_cons hx, drunkGo_cons] at hr
   by_cases h2 : t.x = 2
   ·by_cases h3 : t.z = kk
    ·rw [if_pos ⟨h2, h3⟩] at hr
     have HX := Lib.hid (And.intro hr hB); clear hr hB hx
     rw [h2] at f0
     rw [h3] at f2
     go_wp2
     go_roundw
     case rel => exact ⟨k + 1, wrap64 (m + t.y), by omega, by go_num, rfl, HX.out.1, HX.out.2.alloc (by omega) _⟩
     case measure => simp [intOf]; omega
    ·rw [if_neg (fun e => h3 e.2)] at hr
     have HX := Lib.hid (And.intro hr hB); clear hr hB hx
     rw [h2] at f0
     go_wp2
     go_roundw
     case rel => exact ⟨k + 1, m, by omega, by go_num, rfl, HX.out.1, HX.out.2.alloc (by omega) _⟩
     case measure => simp [intOf]; omega
   ·rw [if_neg (fun e => h2 e.1)] at hr
    have HX := Lib.hid (And.intro hr hB); clear hr hB hx
    go_wp2
    go_roundw
    case rel => exact ⟨k + 1, m, by omega, by go_num, rfl, HX.out.1, HX.out.2.alloc (by omega) _⟩
    case measure => simp [intOf]; omega
  ·have e1 : R = m := by rw [← hr, drop_end hlt]; rfl
   go_wp2
   go_ret
   exact ⟨ret_int e1.symm, hB⟩
end
end Go.Proofs.YtpmmjhpmheooeaaGreatDoor
