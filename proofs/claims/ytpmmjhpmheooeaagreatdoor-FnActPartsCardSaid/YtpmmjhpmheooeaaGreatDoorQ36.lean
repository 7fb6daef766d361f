/- Texts of the proof, joined: Parse. -/
import Derived.Test.YtpmmjhpmheooeaaGreatDoorQ35
import Derived.Test.YtpmmjhpmheooeaaGreatDoorQ33
import Derived.Maps.OwnOps
import Derived.Carry
namespace Go.Proofs.YtpmmjhpmheooeaaGreatDoor
set_option linter.unusedSimpArgs false
set_option linter.unusedVariables false
section
open Go.RowKit
open Go.Maps (Keyed)
set_option maxRecDepth 20000
theorem join_lenM (m : Nat) (l : List (List UInt8)) (h : ∀ x ∈ l, x.length ≤ m) : (Lib.join l [32]).length ≤ l.length * (m + 1) := by
 have ht : ∀ r : List (List UInt8), (∀ x ∈ r, x.length ≤ m) → (Lib.joinTail [32] r).length ≤ r.length * (m + 1) := by
  intro r
  induction r with
  |nil => intro _; exact Nat.zero_le _
  |cons y r ih =>
   intro hr
   rw [joinTail_c, List.length_append, List.length_append, List.length_cons]
   have h1 := hr y List.mem_cons_self
   have h2 := ih (fun x hx => hr x (List.mem_cons_of_mem _ hx))
   simp only [List.length_cons, List.length_nil, Nat.succ_mul]
   omega
 cases l with
 |nil => simp [Lib.join]
 |cons x r =>
  rw [Lib.join_cons, List.length_append, List.length_cons, Nat.succ_mul]
  have h1 := h x List.mem_cons_self
  have h2 := ht r (fun y hy => h y (List.mem_cons_of_mem _ hy))
  omega
theorem sown_blk {w : World} {base c : Nat} {A : Option Addr} {l : List (List UInt8)} (h : OwnSt w base A c l) (h0 : 0 < l.length) :
  ∃ b cur, A = some ⟨b, 0, none⟩ ∧ base ≤ b ∧ Blk w b 9 cur ∧ (∀ (k : Nat) x, l[k]? = some x → cur[k]? = some (sv x)) ∧ l.length ≤ c := by
 rcases h.2 with ⟨_, h2⟩ | ⟨g, cap, cur, hv, hg, hh, hnc, hcm, hcs, ht⟩
 ·omega
 ·simp only [Value.slice.injEq, true_and] at hv
  obtain ⟨rfl, rfl⟩ := hv
  refine ⟨g, cur, rfl, hg, hh, fun k x hx => ?_, hnc⟩
  have hk : k < l.length := (List.getElem?_eq_some_iff.1 hx).1
  have e : (strs l)[k]? = some (sv x) := by simp [strs, hx]
  rw [← ht, List.getElem?_take, if_pos (by omega)] at e
  simpa using e
theorem Join_any (l : List (List UInt8)) (b c : Nat) (cur : Array Value) (w : World) (hk : Blk w b 9 cur) (hc : ∀ (k : Nat) x, l[k]? = some x → cur[k]? = some (sv x)) (hlc : l.length ≤ c) (hl : l.length ≤ 1000) (hx : ∀ x ∈ l, x.length ≤ 1048576) :
  Calls Tryz.prog 55 #[.slice (some ⟨b, 0, none⟩) l.length c, sv [32]] w fun e w' => e = .returned (sv (Lib.join l [32])) ∧ Below w.heap.size w w' := by
 have hj := join_lenM 1048576 l hx
 have := Tryz.strings_Join b 0 c (l.map fun x => (⟨x.toArray⟩ : ByteArray)) ⟨#[32]⟩ w (fun j x hx => by
  rw [List.getElem?_map] at hx
  obtain ⟨y, hy, rfl⟩ := Option.map_eq_some_iff.1 hx
  rw [Nat.zero_add]
  exact (hk.cell j).trans (hc j y hy)) hk.lt (by rw [List.length_map]; omega) (by rw [List.length_map]; exact hlc) (by simp only [List.map_map, Function.comp_def, List.map_id']; omega)
 simpa [List.map_map, Function.comp_def] using this
/-! The map of the kinds. -/
theorem zeroI (w : World) : (zeroValue 3).run Tryz.prog w = .ok (.int .i64 0) w := by kernel_rfl
noncomputable def kindsD : DataW Unit := ((((((DataW.map [] : DataW Unit).put (.string [114, 97, 105, 110]) (.lit (.int .i64 1))).put (.string [100, 114, 105, 110, 107]) (.lit (.int .i64 2))).put (.string [108, 101, 97, 107]) (.lit (.int .i64 3))).put (.string [115, 101, 108, 108]) (.lit (.int .i64 4))).put (.string [104, 101, 105, 114, 115]) (.lit (.int .i64 5))).put (.string [109, 97, 121]) (.lit (.int .i64 6))
theorem kinds_at (f : List UInt8) : kindsD.atKey (.string f) (.lit (.int .i64 0)) = .lit (.int .i64 (kindOf f)) := by
 have hK : ∀ s : List UInt8, WideAt.IsKeyLit (.string s) := fun s => by trivial
 have h0 : Maps.IsMap (DataW.map [] : DataW Unit) := Maps.isMap_empty
 have hne : ∀ a b : List UInt8, a ≠ b → (Lit.string a) ≠ Lit.string b := fun a b h e => h (by injection e)
 unfold kindsD kindOf
 by_cases h1 : f = [114, 97, 105, 110]
 ·subst h1
  rw [Maps.atKey_put_other (hne _ _ (by decide)), Maps.atKey_put_other (hne _ _ (by decide)), Maps.atKey_put_other (hne _ _ (by decide)), Maps.atKey_put_other (hne _ _ (by decide)), Maps.atKey_put_other (hne _ _ (by decide)), Maps.atKey_put_same h0 (hK _), if_pos rfl]
 rw [if_neg h1]
 by_cases h2 : f = [100, 114, 105, 110, 107]
 ·subst h2
  rw [Maps.atKey_put_other (hne _ _ (by decide)), Maps.atKey_put_other (hne _ _ (by decide)), Maps.atKey_put_other (hne _ _ (by decide)), Maps.atKey_put_other (hne _ _ (by decide)), Maps.atKey_put_same (h0.put _ _) (hK _), if_pos rfl]
 rw [if_neg h2]
 by_cases h3 : f = [108, 101, 97, 107]
 ·subst h3
  rw [Maps.atKey_put_other (hne _ _ (by decide)), Maps.atKey_put_other (hne _ _ (by decide)), Maps.atKey_put_other (hne _ _ (by decide)), Maps.atKey_put_same ((h0.put _ _).put _ _) (hK _), if_pos rfl]
 rw [if_neg h3]
 by_cases h4 : f = [115, 101, 108, 108]
 ·subst h4
  rw [Maps.atKey_put_other (hne _ _ (by decide)), Maps.atKey_put_other (hne _ _ (by decide)), Maps.atKey_put_same (((h0.put _ _).put _ _).put _ _) (hK _), if_pos rfl]
 rw [if_neg h4]
 by_cases h5 : f = [104, 101, 105, 114, 115]
 ·subst h5
  rw [Maps.atKey_put_other (hne _ _ (by decide)), Maps.atKey_put_same ((((h0.put _ _).put _ _).put _ _).put _ _) (hK _), if_pos rfl]
 rw [if_neg h5]
 by_cases h6 : f = [109, 97, 121]
 ·subst h6
  rw [Maps.atKey_put_same (((((h0.put _ _).put _ _).put _ _).put _ _).put _ _) (hK _), if_pos rfl]
 rw [if_neg h6]
 rw [Maps.atKey_put_other (hne _ _ h6), Maps.atKey_put_other (hne _ _ h5), Maps.atKey_put_other (hne _ _ h4), Maps.atKey_put_other (hne _ _ h3), Maps.atKey_put_other (hne _ _ h2), Maps.atKey_put_other (hne _ _ h1)]
 rfl
theorem ownsMap_below {w w' : World} {k : TypeId} {R : Value → Option (DataW Unit × List MemPlace)} {b n B : Nat} {D : DataW Unit} (h : w.ownsMap Tryz.prog k R b n D) (hb : Below B w w') (hlt : b < B) : w'.ownsMap Tryz.prog k R b n D := by
 obtain ⟨es, clock, h1, r⟩ := h
 exact ⟨es, clock, (hb.block b hlt).trans h1, r⟩
/-- The six stores, one after another. -/
theorem kinds_map (W : World) : ∃ X1 X2 X3 X4 X5 X6 : World,
  (Instr.mapUpdate 79 (.map (some W.heap.size)) (.string ⟨#[114, 97, 105, 110]⟩) (.int .i64 1)).run Tryz.prog (W.alloc (.map #[] 0)) = .ok () X1 ∧
  (Instr.mapUpdate 79 (.map (some W.heap.size)) (.string ⟨#[100, 114, 105, 110, 107]⟩) (.int .i64 2)).run Tryz.prog X1 = .ok () X2 ∧
  (Instr.mapUpdate 79 (.map (some W.heap.size)) (.string ⟨#[108, 101, 97, 107]⟩) (.int .i64 3)).run Tryz.prog X2 = .ok () X3 ∧
  (Instr.mapUpdate 79 (.map (some W.heap.size)) (.string ⟨#[115, 101, 108, 108]⟩) (.int .i64 4)).run Tryz.prog X3 = .ok () X4 ∧
  (Instr.mapUpdate 79 (.map (some W.heap.size)) (.string ⟨#[104, 101, 105, 114, 115]⟩) (.int .i64 5)).run Tryz.prog X4 = .ok () X5 ∧
  (Instr.mapUpdate 79 (.map (some W.heap.size)) (.string ⟨#[109, 97, 121]⟩) (.int .i64 6)).run Tryz.prog X5 = .ok () X6 ∧
  X6.ownsMap Tryz.prog 9 (plainElem Tryz.prog 3) W.heap.size 6 kindsD ∧ Below W.heap.size W X6 ∧ W.heap.size < X6.heap.size := by
 have K := (Go.Maps.string_keyed Tryz.underlying9)
 have hu := Tryz.underlying79
 have hv : ∀ a : Int, (Lit.int .i64 a).wf = true → plainElem (H := Unit) Tryz.prog 3 (.int .i64 a) = some (.lit (.int .i64 a), []) := fun a h => plainElem_int Tryz.underlying3 h
 have hk : ∀ l : List UInt8, l.length ≤ 100 → keyOf Tryz.prog 9 (.string ⟨l.toArray⟩) = some (.string l) := fun l hl => by
  have := Go.WideMaps.keyOf_string_mk Tryz.underlying9 (s := ⟨l.toArray⟩) (by unfold maxLen; simp [ByteArray.size]; omega)
  simpa using this
 have h0 := World.ownsMap_made W Tryz.prog 9 (plainElem (H := Unit) Tryz.prog 3)
 have hB0 : Below W.heap.size W (W.alloc (.map #[] 0)) := Below.alloc (Below.refl _ _) (Nat.le_refl _) _
 obtain ⟨X1, r1, o1, g1⟩ := h0.update K hu (by unfold maxLen; omega) (hk [114, 97, 105, 110] (by simp)) (hv 1 (by decide))
 obtain ⟨X2, r2, o2, g2⟩ := o1.update K hu (by unfold maxLen; omega) (hk [100, 114, 105, 110, 107] (by simp)) (hv 2 (by decide))
 obtain ⟨X3, r3, o3, g3⟩ := o2.update K hu (by unfold maxLen; omega) (hk [108, 101, 97, 107] (by simp)) (hv 3 (by decide))
 obtain ⟨X4, r4, o4, g4⟩ := o3.update K hu (by unfold maxLen; omega) (hk [115, 101, 108, 108] (by simp)) (hv 4 (by decide))
 obtain ⟨X5, r5, o5, g5⟩ := o4.update K hu (by unfold maxLen; omega) (hk [104, 101, 105, 114, 115] (by simp)) (hv 5 (by decide))
 obtain ⟨X6, r6, o6, g6⟩ := o5.update K hu (by unfold maxLen; omega) (hk [109, 97, 121] (by simp)) (hv 6 (by decide))
 have hn : ∀ k, some W.heap.size = some k → W.heap.size ≤ k := fun k hk => by have := Option.some.inj hk; omega
 have b1 := hB0.grown g1 (by simp) hn
 have b2 := b1.grown g2 b1.size hn
 have b3 := b2.grown g3 b2.size hn
 have b4 := b3.grown g4 b3.size hn
 have b5 := b4.grown g5 b4.size hn
 have b6 := b5.grown g6 b5.size hn
 exact ⟨X1, X2, X3, X4, X5, X6, r1, r2, r3, r4, r5, r6, o6, b6, o6.lt⟩
theorem kinds_look {X : World} {b n : Nat} (h : X.ownsMap Tryz.prog 9 (plainElem Tryz.prog 3) b n kindsD) (f : List UInt8) (hf : f.length ≤ 1048576) :
  (Instr.lookup 79 (.map (some b)) (sv f) false).run Tryz.prog X = .ok (.int .i64 (kindOf f)) X := by
 have hk : keyOf Tryz.prog 9 (.string ⟨f.toArray⟩) = some (.string f) := by
  have := Go.WideMaps.keyOf_string_mk Tryz.underlying9 (s := ⟨f.toArray⟩) (by unfold maxLen; simp [ByteArray.size]; omega)
  simpa using this
 obtain ⟨c, hrun, hat, -⟩ := h.lookup_int (Go.Maps.string_keyed Tryz.underlying9) Tryz.underlying79 Tryz.underlying3 (zeroI X) hk
 rw [kinds_at] at hat
 have e : kindOf f = c := by injection hat with hat; injection hat
 rw [e]
 exact hrun
/-! The implementation's walk. -/
theorem paI_noOk {t : List UInt8} (h : sfOk t = false) : paI t = false := by unfold paI; rw [h]; rfl
theorem paI_few {t : List UInt8} (h : ¬ (1 ≤ (sfX t).length ∧ (sfX t).length ≤ 3)) : paI t = false := by unfold paI paOkF; rw [decide_eq_false h]; simp
theorem paI_num {t : List UInt8} {k : Nat} {x : List UInt8} (h : (sfX t)[k + 1]? = some x) (hx : puOk x = false) : paI t = false := by
 have hm : x ∈ (sfX t).drop 1 := List.mem_of_getElem? (i := k) (by rw [List.getElem?_drop, show 1 + k = k + 1 by omega]; exact h)
 have : ((sfX t).drop 1).all puOk = false := List.all_eq_false.2 ⟨x, hm, by rw [hx]; simp⟩
 unfold paI paOkF
 rw [this]; simp
theorem paI_end {t : List UInt8} (h0 : sfOk t = true) (h1 : 1 ≤ (sfX t).length ∧ (sfX t).length ≤ 3) (h2 : ((sfX t).drop 1).all puOk = true) : paI t = (actOk (paK (sfX t)) (paA (sfX t)) (paB (sfX t)) && decide (actText (paK (sfX t)) (paA (sfX t)) (paB (sfX t)) = Lib.join (sfX t) [32])) := by
 unfold paI paOkF
 rw [h0, decide_eq_true h1, h2]; simp
def nmA (ps : List (List UInt8)) (k : Nat) : Int := if 0 < k then (puVal (ps.getD 1 []) : Int) else 0
def nmB (ps : List (List UInt8)) (k : Nat) : Int := if 1 < k then (puVal (ps.getD 2 []) : Int) else 0
theorem nm_end {ps : List (List UInt8)} (h : 1 ≤ ps.length) : nmA ps (ps.length - 1) = paA ps ∧ nmB ps (ps.length - 1) = paB ps := by
 constructor
 ·unfold nmA paA
  split
  ·rfl
  ·rw [List.getD_eq_getElem?_getD, List.getElem?_eq_none (by omega)]
   show (0 : Int) = (puVal [] : Int)
   rw [puVal_no pu_empty]; rfl
 ·unfold nmB paB
  split
  ·rfl
  ·rw [List.getD_eq_getElem?_getD, List.getElem?_eq_none (by omega)]
   show (0 : Int) = (puVal [] : Int)
   rw [puVal_no pu_empty]; rfl
theorem nm_0 {ps : List (List UInt8)} {x : List UInt8} (h : ps[1]? = some x) : nmA ps 1 = (puVal x : Int) ∧ nmB ps 1 = 0 ∧ nmA ps 0 = 0 ∧ nmB ps 0 = 0 := by
 refine ⟨?_, rfl, rfl, rfl⟩
 unfold nmA
 rw [if_pos (by omega), List.getD_eq_getElem?_getD, h]; rfl
theorem nm_1 {ps : List (List UInt8)} {x : List UInt8} (h : ps[2]? = some x) : nmA ps 2 = nmA ps 1 ∧ nmB ps 2 = (puVal x : Int) ∧ nmB ps 1 = 0 := by
 refine ⟨rfl, ?_, rfl⟩
 unfold nmB
 rw [if_pos (by omega), List.getD_eq_getElem?_getD, h]; rfl
theorem all_step {ps : List (List UInt8)} {k : Nat} {x : List UInt8} (h : ps[k + 1]? = some x) (h1 : ∀ y ∈ (ps.drop 1).take k, puOk y = true) (hx : puOk x = true) : ∀ y ∈ (ps.drop 1).take (k + 1), puOk y = true := by
 intro y hy
 have hg : (ps.drop 1)[k]? = some x := by rw [List.getElem?_drop, show 1 + k = k + 1 by omega]; exact h
 rw [List.take_add_one, hg] at hy
 rcases List.mem_append.1 hy with hy | hy
 ·exact h1 y hy
 ·simp at hy; rw [hy]; exact hx
def PaRet (t : List UInt8) (w : World) (e : Ending) (w' : World) : Prop := e = .returned (.tuple #[.agg #[.int .i64 (paX t).x, .int .i64 (paX t).y, .int .i64 (paX t).z], .bool (paI t)]) ∧ Below w.heap.size w w'
theorem pa_ret_no {t : List UInt8} {w w' : World} (h : paI t = false) (hb : Below w.heap.size w w') : PaRet t w (.returned (.tuple #[.agg #[.int .i64 0, .int .i64 0, .int .i64 0], .bool false])) w' := by
 have hx := paX_no h
 refine ⟨?_, hb⟩
 rw [hx.1, hx.2]
theorem pa_ret_yes {t : List UInt8} {w w' : World} {k a b : Int} (h : paI t = true) (h1 : paK (sfX t) = k) (h2 : paA (sfX t) = a) (h3 : paB (sfX t) = b) (hb : Below w.heap.size w w') : PaRet t w (.returned (.tuple #[.agg #[.int .i64 k, .int .i64 a, .int .i64 b], .bool true])) w' := by
 have hx := paX_yes h
 refine ⟨?_, hb⟩
 rw [hx.1, hx.2, h1, h2, h3]
set_option maxHeartbeats 6400000 in
theorem ParseAct_ret (t : List UInt8) (w : World) (ht : Tab w) (hs : t.length ≤ 1048576) :
  Calls Tryz.prog 29 #[sv t] w (PaRet t w) := by
 have hB := Below.refl w.heap.size w
 have HSF := Lib.hid (fun W => SplitFields_any t W)
 have hmem := sfX_mem t
 obtain ⟨ok, hok⟩ : ∃ ok, ok = sfOk t := ⟨_, rfl⟩
 obtain ⟨ps, hps⟩ : ∃ ps, ps = sfX t := ⟨_, rfl⟩
 rw [← hok, ← hps] at HSF
 rw [← hps] at hmem
 have HOK := Lib.hid hok
 have HPS := Lib.hid hps
 have HMEM := Lib.hid hmem
 clear hok hps hmem
 go_enter Tryz.func29, Tryz.ntmps29
 go_wp2_with fail
 first | refine name_world ?_ | refine name_wp ?_
 intro W1 hW
 replace hB : Below w.heap.size w W1 := by rw [hW]; exact tacT
 have hz_W1 : w.heap.size ≤ W1.heap.size := by rw [hW]; exact sT
 replace kb_r : Blk W1 (w.heap.size) 50 #[.int .i64 0, .int .i64 0, .int .i64 0] := by rw [hW]; exact blkT
 have hLW1_r := kb_r.lt
 try clear kc_r kf_r
 clear hW
 refine (HSF.out _).mono ?_
 rintro e w1 ⟨A1, c1, rfl, ho1, hb⟩
 replace hB := hB.trans (Below.mono hb hB.size)
 have hz_w1 : W1.heap.size ≤ w1.heap.size := Below.size hb
 replace kb_r := kb_r.mv hb; obtain ⟨kb_r, kc_r, kf_r, hl_r, hn_r⟩ := kb_r
 clear hb
 cases ok
 ·have HN := Lib.hid (paI_noOk HOK.out.symm)
  go_wp2_with fail
  exact bodyPost_ret (v := .tuple #[.agg #[.int .i64 0, .int .i64 0, .int .i64 0], .bool false]) (by simp [results, Tryz.results29, go_sem, kc_r, hl_r, hn_r]) rfl (pa_ret_no HN.out (by exact tacT))
 by_cases hl0 : ps.length = 0
 ·have HN := Lib.hid (paI_few (t := t) (by rw [← HPS.out]; omega))
  have e1 : ((ps.length : Int) == 0) = true := by rw [hl0]; rfl
  go_wp2_with fail
  exact bodyPost_ret (v := .tuple #[.agg #[.int .i64 0, .int .i64 0, .int .i64 0], .bool false]) (by simp [results, Tryz.results29, go_sem, kc_r, hl_r, hn_r]) rfl (pa_ret_no HN.out (by exact tacT))
 have e1 : ((ps.length : Int) == 0) = false := beq_eq_false_iff_ne.2 (by omega)
 have e2 : ¬ (ps.length : Int) = 0 := by omega
 by_cases hl3 : 3 < ps.length
 ·have HN := Lib.hid (paI_few (t := t) (by rw [← HPS.out]; omega))
  have e3 : (3 : Int) < (ps.length : Int) := by omega
  have e4 : decide (3 < ps.length) = true := decide_eq_true hl3
  go_wp2_with fail
  exact bodyPost_ret (v := .tuple #[.agg #[.int .i64 0, .int .i64 0, .int .i64 0], .bool false]) (by simp [results, Tryz.results29, go_sem, kc_r, hl_r, hn_r]) rfl (pa_ret_no HN.out (by exact tacT))
 have e3 : ¬ (3 : Int) < (ps.length : Int) := by omega
 have e4 : decide (3 < ps.length) = false := decide_eq_false hl3
 obtain ⟨b1, cur, rfl, hb1, kb_p, hc1, hcap⟩ := sown_blk ho1 (by omega)
 have HC1 := Lib.hid hc1
 have hl_p := kb_p.lt
 clear ho1 hc1
 go_upto_region 5 with fail
 first | refine name_world ?_ | refine name_wp ?_
 intro W2 hW
 replace hB : Below w.heap.size w W2 := by rw [hW]; exact tacT
 have hz2 : w1.heap.size < W2.heap.size := by rw [hW]; simp
 replace kb_r : Blk W2 w.heap.size 50 #[.int .i64 0, .int .i64 0, .int .i64 0] := by rw [hW]; exact blkT
 replace kb_p : Blk W2 b1 9 cur := by rw [hW]; exact blkT
 have kb_g : Blk W2 w1.heap.size 76 #[.int .i64 (nmA ps 0), .int .i64 (nmB ps 0)] := by rw [hW]; exact Blk.new _ _ _
 clear hW kc_r kf_r hl_r hn_r hb1 HSF
 have hcap1 : 1 ≤ c1 := by omega
 have hc2 : (1 : Int) ≤ (ps.length : Int) := by omega
 have hc3 : (1 : Int) ≤ (c1 : Int) := by omega
 have hc4 : (ps.length : Int) ≤ (c1 : Int) := by omega
 have HTZ : Hid (∀ W, Below w.heap.size w W → Tab W) := fun W hb => ht.below hb
 go_wp2_with fail
 all_goals
  (try subst h)
  go_loopw [36] (fun i wr => ∃ (k : Nat), k ≤ ps.length - 1 ∧ i = .int .i64 k ∧ Hid (∀ y ∈ (ps.drop 1).take k, puOk y = true) ∧ Blk wr w.heap.size 50 #[.int .i64 0, .int .i64 0, .int .i64 0] ∧ Blk wr b1 9 cur ∧ Blk wr w1.heap.size 76 #[.int .i64 (nmA ps k), .int .i64 (nmB ps k)] ∧ Below w.heap.size w wr ∧ W2.heap.size ≤ wr.heap.size) (fun i _ => ps.length - 1 - (intOf i).toNat)
  case atStart => exact ⟨0, Nat.zero_le _, rfl, ⟨fun y hy => by simp at hy, kb_r, kb_p, kb_g, hB, Nat.le_refl _⟩⟩
  case round =>
   clear kb_r kb_p kb_g hB
   obtain ⟨k, hk, rfl, HI, kb_r, kb_p, kb_g, hB, hzr⟩ := hrel
   by_cases hlt : k < ps.length - 1
   ·first
    |exfalso; omega
    |obtain ⟨x, hx⟩ : ∃ x, ps[k + 1]? = some x := ⟨_, List.getElem?_eq_getElem (by omega)⟩
     have f0 : wr.cell? ⟨b1, 1 + k, none⟩ = some (sv x) := by rw [Nat.add_comm]; exact (kb_p.cell (k + 1)).trans (HC1.out (k + 1) x hx)
     have hlb : b1 < wr.heap.size := by omega
     have hk0 : (0 : Int) ≤ (k : Int) := by omega
     have hk1 : (k : Int) < ((ps.length - 1 : Nat) : Int) := by omega
     have hxl := (HMEM.out x (List.mem_of_getElem? hx)).2
     have HP := Lib.hid (fun W (h : Tab W) => ParseUint_any x W h (by omega))
     obtain ⟨o, ho⟩ : ∃ o, o = puOk x := ⟨_, rfl⟩
     obtain ⟨n, hn⟩ : ∃ n, n = puVal x := ⟨_, rfl⟩
     rw [← ho, ← hn] at HP
     have HX := Lib.hid hx
     have HOX := Lib.hid ho
     have HNX := Lib.hid hn
     clear hx ho hn
     have kc_r := kb_r.cells
     go_wp2_with fail
     refine (HP.out _ (HTZ.out _ hB)).mono ?_
     rintro e w3 ⟨rfl, hb⟩
     replace hB := hB.trans (Below.mono hb hB.size)
     have hz_w3 : wr.heap.size ≤ w3.heap.size := Below.size hb
     replace kb_r := kb_r.mv hb; obtain ⟨kb_r, kc_r, kf_r, hl_r, hn_r⟩ := kb_r
     replace kb_p := kb_p.mv hb; obtain ⟨kb_p, kc_p, kf_p, hl_p, hn_p⟩ := kb_p
     replace kb_g := kb_g.mv hb; obtain ⟨kb_g, kc_g, kf_g, hl_g, hn_g⟩ := kb_g
     clear hb
     clear HP f0
     cases o
     ·have HN := Lib.hid (paI_num (t := t) (k := k) (x := x) (by rw [← HPS.out]; exact HX.out) HOX.out.symm)
      go_wp2_with fail
      exact bodyPost_ret (v := .tuple #[.agg #[.int .i64 0, .int .i64 0, .int .i64 0], .bool false]) (by simp [results, Tryz.results29, go_sem, kc_r, hl_r, hn_r]) rfl (pa_ret_no HN.out (by exact tacT))
     ·have HN : Hid (∀ y ∈ (ps.drop 1).take (k + 1), puOk y = true) := all_step HX.out HI.out HOX.out.symm
      have hk2 : k = 0 ∨ k = 1 := by omega
      rcases hk2 with rfl | rfl
      ·have hnm := nm_0 HX.out
       rw [← HNX.out] at hnm
       obtain ⟨m1, m2, m3, m4⟩ := hnm
       clear HX HOX HNX HI
       rw [m3, m4] at kb_g
       have kc_g := kb_g.cells
       go_wp2_with fail
       go_roundw
       case rel => exact ⟨1, by omega, by go_num, HN.out, by exact blkT, by exact blkT, by rw [m1, m2]; exact Blk.set_ kb_g 0 _, by exact tacT, by first | (simp; omega) | omega⟩
       case measure => simp [intOf]; omega
      ·have hnm := nm_1 HX.out
       rw [← HNX.out] at hnm
       obtain ⟨m1, m2, m3⟩ := hnm
       clear HX HOX HNX HI
       rw [m3] at kb_g
       have kc_g := kb_g.cells
       go_wp2_with fail
       go_roundw
       case rel => exact ⟨2, by omega, by go_num, HN.out, by exact blkT, by exact blkT, by rw [m1, m2]; exact Blk.set_ kb_g 1 _, by exact tacT, by first | (simp; omega) | omega⟩
       case measure => simp [intOf]; omega
   ·obtain rfl : k = ps.length - 1 := by omega
    have hk1 : ¬ ((ps.length - 1 : Nat) : Int) < ((ps.length - 1 : Nat) : Int) := by omega
    have hnm := nm_end (ps := ps) (by omega)
    rw [hnm.1, hnm.2] at kb_g
    go_upto_region 13 with fail
    first | refine name_world ?_ | refine name_wp ?_
    intro W9 hW
    subst hW
    have u0 := run_makeMap (P := Tryz.prog) 79 W9
    obtain ⟨X1, X2, X3, X4, X5, X6, u1, u2, u3, u4, u5, u6, hown, hb, hlt6⟩ := kinds_map W9
    obtain ⟨y, hy⟩ : ∃ y, ps[0]? = some y := ⟨_, List.getElem?_eq_getElem (by omega)⟩
    have hyl := (HMEM.out y (List.mem_of_getElem? hy)).2
    have HY : Hid (kindOf y = paK ps) := by
     show _ = _
     unfold paK
     rw [List.getD_eq_getElem?_getD, hy]; rfl
    have HOWN := Lib.hid hown
    clear hown
    have hpz : 0 < ps.length := by omega
    have hcy := HC1.out 0 y hy
    clear hy
    go_upto_region 14 with fail
    replace hB := hB.trans (Below.mono hb hB.size)
    have hz_X6 : W9.heap.size ≤ X6.heap.size := Below.size hb
    replace kb_r := kb_r.mv hb; obtain ⟨kb_r, kc_r, kf_r, hl_r, hn_r⟩ := kb_r
    replace kb_p := kb_p.mv hb; obtain ⟨kb_p, kc_p, kf_p, hl_p, hn_p⟩ := kb_p
    replace kb_g := kb_g.mv hb; obtain ⟨kb_g, kc_g, kf_g, hl_g, hn_g⟩ := kb_g
    clear hb
    have HK : Hid (∀ X : World, Below X6.heap.size X6 X → X.cell? ⟨b1, 0, none⟩ = some (sv y) ∧ X.cell? ⟨w1.heap.size, 0, none⟩ = some (.int .i64 (paA ps)) ∧ X.cell? ⟨w1.heap.size, 1, none⟩ = some (.int .i64 (paB ps)) ∧ (Instr.lookup 79 (.map (some W9.heap.size)) (sv y) false).run Tryz.prog X = .ok (.int .i64 (kindOf y)) X) := fun X hX =>
     ⟨(Below.cell hX (p := ⟨b1, 0, none⟩) hl_p).trans ((kb_p.cell 0).trans hcy), (Below.cell hX (p := ⟨w1.heap.size, 0, none⟩) hl_g).trans (kb_g.cell 0), (Below.cell hX (p := ⟨w1.heap.size, 1, none⟩) hl_g).trans (kb_g.cell 1), kinds_look (ownsMap_below HOWN.out hX hlt6) y (by omega)⟩
    have hend : paI t = (actOk (paK ps) (paA ps) (paB ps) && decide (actText (paK ps) (paA ps) (paB ps) = Lib.join ps [32])) := by
     have h9 := paI_end (t := t) HOK.out.symm (by rw [← HPS.out]; omega) (by
      rw [← HPS.out]
      have h8 := HI.out
      rw [List.take_of_length_le (by rw [List.length_drop]; omega)] at h8
      exact List.all_eq_true.2 h8)
     rw [← HPS.out] at h9
     exact h9
    have HJ := Lib.hid (fun (W : World) (hk : Blk W b1 9 cur) => Join_any ps b1 _ cur W hk HC1.out hcap (by omega) (fun x hx => by have := (HMEM.out x hx).2; omega))
    obtain ⟨jn, hjn⟩ : ∃ jn, jn = Lib.join ps [32] := ⟨_, rfl⟩
    obtain ⟨kk, hkk⟩ : ∃ kk, kk = kindOf y := ⟨_, rfl⟩
    obtain ⟨aa, haa⟩ : ∃ aa, aa = paA ps := ⟨_, rfl⟩
    obtain ⟨bb, hbb⟩ : ∃ bb, bb = paB ps := ⟨_, rfl⟩
    have hk9 : paK ps = kk := by rw [hkk, HY.out]
    rw [hk9, ← haa, ← hbb, ← hjn] at hend
    rw [← hjn] at HJ
    rw [← haa, ← hbb, ← hkk] at HK
    rw [← haa, ← hbb] at kb_g
    have HE : Hid (paK (sfX t) = kk ∧ paA (sfX t) = aa ∧ paB (sfX t) = bb) := ⟨by rw [← HPS.out, hk9], by rw [← HPS.out, haa], by rw [← HPS.out, hbb]⟩
    clear hjn hkk haa hbb hk9 HY HI hnm kc_g
    have HF := Lib.hid (fun (W : World) (h : Tab W) => FormatAct_any kk aa bb W h)
    obtain ⟨tx, htx⟩ : ∃ tx, tx = actText kk aa bb := ⟨_, rfl⟩
    obtain ⟨o2, ho2⟩ : ∃ o2, o2 = actOk kk aa bb := ⟨_, rfl⟩
    rw [← htx, ← ho2] at HF hend
    have HEND := Lib.hid hend
    clear htx ho2 hend
    obtain ⟨g0, g1, g2, g3⟩ := HK.out X6 (Below.refl _ _)
    clear u0 u1 u2 u3 u4 u5 u6 hcy
    have hB6 := Below.refl X6.heap.size X6
    have hz6 : w.heap.size ≤ X6.heap.size := hB.size
    go_region_held3 (fun X => X.cell? ⟨b1, 0, none⟩ = some (sv y) ∧ X.cell? ⟨w1.heap.size, 0, none⟩ = some (.int .i64 aa) ∧ X.cell? ⟨w1.heap.size, 1, none⟩ = some (.int .i64 bb) ∧ (Instr.lookup 79 (.map (some W9.heap.size)) (sv y) false).run Tryz.prog X = .ok (.int .i64 kk) X) (first | exact ⟨g0, g1, g2, g3⟩ | (refine HK.out _ ?_; (repeat' (first | (with_reducible exact Below.refl _ _) | (with_reducible assumption) | (with_reducible refine Below.alloc ?_ ?_ _) | (with_reducible refine Below.setCell ?_ ?_ _) | (with_reducible refine Below.drew ?_) | (with_reducible refine below_drewN ?_ _) | (refine Below.trans ?_ (Below.mono (by with_reducible assumption) ?_)) | omega | (simp; done) | (simp; omega))); done))
     (fail)
    all_goals
     clear g0 g1 g2 g3 HK kc_r kf_r hl_r hn_r kb_g kc_p kf_p hl_p hn_p
     go_upto_region 15 with fail
     first | refine name_world ?_ | refine name_wp ?_
     intro W4 hW
     have hB4 : Below X6.heap.size X6 W4 := by rw [hW]; exact tacT
     replace hB := hB.trans (Below.mono hB4 hB.size)
     replace kb_r : Blk W4 w.heap.size 50 #[.int .i64 0, .int .i64 0, .int .i64 0] := by rw [hW]; exact blkT
     replace kb_p : Blk W4 b1 9 cur := by rw [hW]; exact blkT
     have kb_a : Blk W4 X6.heap.size 50 #[.int .i64 kk, .int .i64 aa, .int .i64 bb] := by rw [hW]; exact blkT
     clear hW hB4 hB6
     have kc_a := kb_a.cells
     have hl_a := kb_a.lt
     go_wp2_with fail
     refine (HF.out _ (HTZ.out _ hB)).mono ?_
     rintro e w5 ⟨rfl, hb⟩
     replace hB := hB.trans (Below.mono hb hB.size)
     have hz_w5 : W4.heap.size ≤ w5.heap.size := Below.size hb
     replace kb_r := kb_r.mv hb; obtain ⟨kb_r, kc_r, kf_r, hl_r, hn_r⟩ := kb_r
     replace kb_p := kb_p.mv hb; obtain ⟨kb_p, kc_p, kf_p, hl_p, hn_p⟩ := kb_p
     replace kb_a := kb_a.mv hb; obtain ⟨kb_a, kc_a, kf_a, hl_a, hn_a⟩ := kb_a
     clear hb
     cases o2
     ·have HN := Lib.hid HEND.out
      go_wp2_with fail
      exact bodyPost_ret (v := .tuple #[.agg #[.int .i64 0, .int .i64 0, .int .i64 0], .bool false]) (by simp [results, Tryz.results29, go_sem, kc_r, hl_r, hn_r]) rfl (pa_ret_no HN.out (by exact tacT))
     ·go_wp2_with fail
      refine (HJ.out _ kb_p).mono ?_
      rintro e w6 ⟨rfl, hb⟩
      replace hB := hB.trans (Below.mono hb hB.size)
      have hz_w6 : w5.heap.size ≤ w6.heap.size := Below.size hb
      replace kb_r := kb_r.mv hb; obtain ⟨kb_r, kc_r, kf_r, hl_r, hn_r⟩ := kb_r
      replace kb_a := kb_a.mv hb; obtain ⟨kb_a, kc_a, kf_a, hl_a, hn_a⟩ := kb_a
      clear hb
      by_cases hq : tx = jn
      ·have HN : Hid (paI t = true) := by show _ = _; rw [HEND.out, decide_eq_true hq]; rfl
       have e5 : (tx != jn) = false := by simpa using hq
       clear HEND
       go_wp2_with fail
       exact bodyPost_ret (v := .tuple #[.agg #[.int .i64 kk, .int .i64 aa, .int .i64 bb], .bool true]) (by simp [results, Tryz.results29, go_sem, kc_r, hl_r, hn_r]) rfl (pa_ret_yes HN.out HE.out.1 HE.out.2.1 HE.out.2.2 (by exact tacT))
      ·have HN : Hid (paI t = false) := by show _ = _; rw [HEND.out, decide_eq_false hq]; rfl
       have e5 : (tx == jn) = false := by simpa using hq
       clear HEND
       go_wp2_with fail
       exact bodyPost_ret (v := .tuple #[.agg #[.int .i64 0, .int .i64 0, .int .i64 0], .bool false]) (by simp [results, Tryz.results29, go_sem, kc_r, hl_r, hn_r]) rfl (pa_ret_no HN.out (by exact tacT))
end
end Go.Proofs.YtpmmjhpmheooeaaGreatDoor
