/- Texts of the proof, joined: VillPass, DoAct, RunPure, RunOk, VillPure. -/
import Derived.Test.YtpmmjhpmheooeaaGreatDoorQ23
import Derived.Test.YtpmmjhpmheooeaaGreatDoorQ26
import Derived.Test.YtpmmjhpmheooeaaGreatDoorQ20
import Derived.Deep.RegionHeld3
import Derived.Test.YtpmmjhpmheooeaaGreatDoorQ25
import Derived.Test.YtpmmjhpmheooeaaGreatDoorQ1
import Derived.Maps.AppendAt
import Derived.Test.YtpmmjhpmheooeaaGreatDoorQ8
import Derived.Test.YtpmmjhpmheooeaaGreatDoorQ12
import Derived.Test.YtpmmjhpmheooeaaGreatDoorQ11
namespace Go.Proofs.YtpmmjhpmheooeaaGreatDoor
set_option linter.unusedSimpArgs false
set_option linter.unusedVariables false
section
open Go.RowKit
set_option maxRecDepth 20000
def vPass (v : Vg) (o : Int) (hl : List Int) : Vg × Bool := if villageOk v then (⟨v.book, (inhF v.rights o hl).1⟩, (inhF v.rights o hl).2) else (v, false)
set_option maxHeartbeats 3200000 in
theorem vPass_any (A : Option Addr) (c : Nat) (R : Option Addr) (d : Nat) (v : Vg) (o : Int) (B : Option Addr) (e : Nat) (hl : List Int) (w : World) (h : RdT w w.heap.size A c v.book.evs) (h' : RdT w w.heap.size R d v.rights) (hi : RdI w w.heap.size B e hl) (hs : v.book.evs.length ≤ 1048576) (hs' : v.rights.length ≤ 1048576) :
  Calls Tryz.prog 68 #[v.val A c R d, .int .i64 o, .slice B hl.length e] w (VgRet (vPass v o hl) w) := by
 have hB := Below.refl w.heap.size w
 have h1 := fun (W : World) (hb : Below w.heap.size w W) => copyVillage_any A c R d v W (h.below hb) (h'.below hb) hs hs'
 have h2 := fun (W : World) (hb : Below w.heap.size w W) => VillageOk_any A c R d v W (h.below hb) (h'.below hb) hs
 have h3 := fun (W : World) (hb : Below w.heap.size w W) => Inherit_any R d v.rights o B e hl W (h'.below hb) (hi.below hb) hs'
 cases hv : villageOk v
 ·have hst : vPass v o hl = (v, false) := by unfold vPass; rw [hv]; rfl
  rw [hst]
  rw [hv] at h2
  unfold VgRet
  unfold VgOwn at h1
  unfold Vg.val at h1 h2 ⊢
  obtain ⟨⟨room, start, l, lv, ra, dr, lo⟩, rs⟩ := v
  simp only at h h' hs hs' h1 h2 ⊢
  have H1 := Lib.hid h1
  have H2 := Lib.hid h2
  clear h1 h2 h3 hv hst
  go_enter Tryz.func68, Tryz.ntmps68
  go_wp2_with fail
  first | refine name_world ?_ | refine name_wp ?_
  intro W1 hW
  replace hB : Below w.heap.size w W1 := by rw [hW]; exact tacT
  have hz_W1 : w.heap.size ≤ W1.heap.size := by rw [hW]; exact sT
  replace kb_p : Blk W1 (w.heap.size) 35 #[.int .i64 room, .int .i64 start, .slice A l.length c, .int .i64 lv, .int .i64 ra, .int .i64 dr, .int .i64 lo, .slice R rs.length d] := by rw [hW]; exact blkT
  have hLW1_p := kb_p.lt
  replace kb_r : Blk W1 (w.heap.size + 1) 35 #[.int .i64 0, .int .i64 0, .slice none 0 0, .int .i64 0, .int .i64 0, .int .i64 0, .int .i64 0, .slice none 0 0] := by rw [hW]; exact blkT
  have hLW1_r := kb_r.lt
  try clear kc_p kf_p
  try clear kc_r kf_r
  clear hW
  refine (H1.out _ hB).mono ?_
  rintro e' w1 ⟨A1, c1, R1, d1, rfl, ⟨ho1, ho2⟩, hb⟩
  have hr_e := Row2.born ho1
  have hr_s := Row2.born ho2
  clear ho1 ho2
  replace hB := hB.trans (Below.mono hb hB.size)
  have hz_w1 : W1.heap.size ≤ w1.heap.size := Below.size hb
  replace kb_p := kb_p.mv hb; obtain ⟨kb_p, kc_p, kf_p, hl_p, hn_p⟩ := kb_p
  replace kb_r := kb_r.mv hb; obtain ⟨kb_r, kc_r, kf_r, hl_r, hn_r⟩ := kb_r
  clear hb
  go_wp2_with fail
  first | refine name_world ?_ | refine name_wp ?_
  intro W2 hW
  replace hB : Below w.heap.size w W2 := by rw [hW]; exact tacT
  have hz_W2 : w1.heap.size ≤ W2.heap.size := by rw [hW]; exact sT
  replace kb_p : Blk W2 (w.heap.size) 35 #[.int .i64 room, .int .i64 start, .slice A l.length c, .int .i64 lv, .int .i64 ra, .int .i64 dr, .int .i64 lo, .slice R rs.length d] := by rw [hW]; exact blkT
  have hLW2_p := kb_p.lt
  replace kb_r : Blk W2 (w.heap.size + 1) 35 #[.int .i64 0, .int .i64 0, .slice none 0 0, .int .i64 0, .int .i64 0, .int .i64 0, .int .i64 0, .slice none 0 0] := by rw [hW]; exact blkT
  have hLW2_r := kb_r.lt
  replace kb_o : Blk W2 (w1.heap.size) 35 #[.int .i64 room, .int .i64 start, .slice A1 l.length c1, .int .i64 lv, .int .i64 ra, .int .i64 dr, .int .i64 lo, .slice R1 rs.length d1] := by rw [hW]; exact blkT
  have hLW2_o := kb_o.lt
  replace hr_e : Row2 W2 (W1.heap.size) (w1.heap.size) 120 3 A1 (l.length) c1 (t3s l) := by rw [hW]; exact rowT
  replace hr_s : Row2 W2 (W1.heap.size) (w1.heap.size) 69 3 R1 (rs.length) d1 (t3s rs) := by rw [hW]; exact rowT
  try clear kc_p kf_p
  try clear kc_r kf_r
  try clear kc_o kf_o
  clear hW
  refine (H2.out _ hB).mono ?_
  rintro e' w2 ⟨rfl, hb⟩
  replace hB := hB.trans (Below.mono hb hB.size)
  have hz_w2 : W2.heap.size ≤ w2.heap.size := Below.size hb
  replace kb_p := kb_p.mv hb; obtain ⟨kb_p, kc_p, kf_p, hl_p, hn_p⟩ := kb_p
  replace kb_r := kb_r.mv hb; obtain ⟨kb_r, kc_r, kf_r, hl_r, hn_r⟩ := kb_r
  replace kb_o := kb_o.mv hb; obtain ⟨kb_o, kc_o, kf_o, hl_o, hn_o⟩ := kb_o
  replace hr_e := Row2.below hr_e hb (by omega)
  replace hr_s := Row2.below hr_s hb (by omega)
  clear hb
  go_wp2_with fail
  refine bodyPost_ret (v := .tuple #[.agg #[.int .i64 room, .int .i64 start, .slice A1 l.length c1, .int .i64 lv, .int .i64 ra, .int .i64 dr, .int .i64 lo, .slice R1 rs.length d1], .bool false]) ?_ rfl ?_
  ·simp [results, Tryz.results68, go_sem, kc_r, kc_o]
  ·exact ⟨A1, c1, R1, d1, rfl, (Row2.mono (lo := W1.heap.size) (hi := w1.heap.size) (hi' := w1.heap.size) (by exact rowT) (by omega) (Nat.le_refl _)).1, (Row2.mono (lo := W1.heap.size) (hi := w1.heap.size) (hi' := w1.heap.size) (by exact rowT) (by omega) (Nat.le_refl _)).1, by exact tacT⟩
 ·have hst : vPass v o hl = (⟨v.book, (inhF v.rights o hl).1⟩, (inhF v.rights o hl).2) := by unfold vPass; rw [hv]; rfl
  rw [hst]
  rw [hv] at h2
  unfold SellRet at h3
  obtain ⟨⟨rs', ok⟩, hE⟩ : ∃ r, inhF v.rights o hl = r := ⟨_, rfl⟩
  rw [hE] at h3 ⊢
  unfold VgRet
  unfold VgOwn at h1
  unfold Vg.val at h1 h2 ⊢
  obtain ⟨⟨room, start, l, lv, ra, dr, lo⟩, rs⟩ := v
  simp only at h h' hs hs' h1 h2 h3 ⊢
  have H1 := Lib.hid h1
  have H2 := Lib.hid h2
  have H3 := Lib.hid h3
  clear h1 h2 h3 hv hst hE
  go_enter Tryz.func68, Tryz.ntmps68
  go_wp2_with fail
  first | refine name_world ?_ | refine name_wp ?_
  intro W1 hW
  replace hB : Below w.heap.size w W1 := by rw [hW]; exact tacT
  have hz_W1 : w.heap.size ≤ W1.heap.size := by rw [hW]; exact sT
  replace kb_p : Blk W1 (w.heap.size) 35 #[.int .i64 room, .int .i64 start, .slice A l.length c, .int .i64 lv, .int .i64 ra, .int .i64 dr, .int .i64 lo, .slice R rs.length d] := by rw [hW]; exact blkT
  have hLW1_p := kb_p.lt
  replace kb_r : Blk W1 (w.heap.size + 1) 35 #[.int .i64 0, .int .i64 0, .slice none 0 0, .int .i64 0, .int .i64 0, .int .i64 0, .int .i64 0, .slice none 0 0] := by rw [hW]; exact blkT
  have hLW1_r := kb_r.lt
  try clear kc_p kf_p
  try clear kc_r kf_r
  clear hW
  refine (H1.out _ hB).mono ?_
  rintro e' w1 ⟨A1, c1, R1, d1, rfl, ⟨ho1, ho2⟩, hb⟩
  have hr_e := Row2.born ho1
  clear ho1 ho2
  replace hB := hB.trans (Below.mono hb hB.size)
  have hz_w1 : W1.heap.size ≤ w1.heap.size := Below.size hb
  replace kb_p := kb_p.mv hb; obtain ⟨kb_p, kc_p, kf_p, hl_p, hn_p⟩ := kb_p
  replace kb_r := kb_r.mv hb; obtain ⟨kb_r, kc_r, kf_r, hl_r, hn_r⟩ := kb_r
  clear hb
  go_wp2_with fail
  first | refine name_world ?_ | refine name_wp ?_
  intro W2 hW
  replace hB : Below w.heap.size w W2 := by rw [hW]; exact tacT
  have hz_W2 : w1.heap.size ≤ W2.heap.size := by rw [hW]; exact sT
  replace kb_p : Blk W2 (w.heap.size) 35 #[.int .i64 room, .int .i64 start, .slice A l.length c, .int .i64 lv, .int .i64 ra, .int .i64 dr, .int .i64 lo, .slice R rs.length d] := by rw [hW]; exact blkT
  have hLW2_p := kb_p.lt
  replace kb_r : Blk W2 (w.heap.size + 1) 35 #[.int .i64 0, .int .i64 0, .slice none 0 0, .int .i64 0, .int .i64 0, .int .i64 0, .int .i64 0, .slice none 0 0] := by rw [hW]; exact blkT
  have hLW2_r := kb_r.lt
  replace kb_o : Blk W2 (w1.heap.size) 35 #[.int .i64 room, .int .i64 start, .slice A1 l.length c1, .int .i64 lv, .int .i64 ra, .int .i64 dr, .int .i64 lo, .slice R1 rs.length d1] := by rw [hW]; exact blkT
  have hLW2_o := kb_o.lt
  replace hr_e : Row2 W2 (W1.heap.size) (w1.heap.size) 120 3 A1 (l.length) c1 (t3s l) := by rw [hW]; exact rowT
  try clear kc_p kf_p
  try clear kc_r kf_r
  try clear kc_o kf_o
  clear hW
  refine (H2.out _ hB).mono ?_
  rintro e' w2 ⟨rfl, hb⟩
  replace hB := hB.trans (Below.mono hb hB.size)
  have hz_w2 : W2.heap.size ≤ w2.heap.size := Below.size hb
  replace kb_p := kb_p.mv hb; obtain ⟨kb_p, kc_p, kf_p, hl_p, hn_p⟩ := kb_p
  replace kb_r := kb_r.mv hb; obtain ⟨kb_r, kc_r, kf_r, hl_r, hn_r⟩ := kb_r
  replace kb_o := kb_o.mv hb; obtain ⟨kb_o, kc_o, kf_o, hl_o, hn_o⟩ := kb_o
  replace hr_e := Row2.below hr_e hb (by omega)
  clear hb
  go_wp2_with fail
  refine (H3.out _ hB).mono ?_
  rintro e' w3 ⟨R3, d3, rfl, ho3, hb⟩
  have hr_s := Row2.born ho3
  clear ho3
  replace hB := hB.trans (Below.mono hb hB.size)
  have hz_w3 : w2.heap.size ≤ w3.heap.size := Below.size hb
  replace kb_p := kb_p.mv hb; obtain ⟨kb_p, kc_p, kf_p, hl_p, hn_p⟩ := kb_p
  replace kb_r := kb_r.mv hb; obtain ⟨kb_r, kc_r, kf_r, hl_r, hn_r⟩ := kb_r
  replace kb_o := kb_o.mv hb; obtain ⟨kb_o, kc_o, kf_o, hl_o, hn_o⟩ := kb_o
  replace hr_e := Row2.below hr_e hb (by omega)
  clear hb
  go_wp2_with fail
  refine bodyPost_ret (v := .tuple #[.agg #[.int .i64 room, .int .i64 start, .slice A1 l.length c1, .int .i64 lv, .int .i64 ra, .int .i64 dr, .int .i64 lo, .slice R3 rs'.length d3], .bool ok]) ?_ rfl ?_
  ·simp [results, Tryz.results68, go_sem, kc_r, kc_o, hl_r, hn_r, hl_o, hn_o]
  ·exact ⟨A1, c1, R3, d3, rfl, (Row2.mono (lo := W1.heap.size) (hi := w1.heap.size) (hi' := w1.heap.size) (by exact rowT) (by omega) (Nat.le_refl _)).1, (Row2.mono (lo := w2.heap.size) (hi := w3.heap.size) (hi' := w3.heap.size) (by exact rowT) (by omega) (Nat.le_refl _)).1, by exact tacT⟩
theorem vPass_len (v : Vg) (o : Int) (hl : List Int) : (vPass v o hl).1.book.evs.length ≤ v.book.evs.length ∧ (vPass v o hl).1.rights.length ≤ v.rights.length + 12 := by
 unfold vPass
 split
 ·exact ⟨Nat.le_refl _, inhF_len v.rights o hl⟩
 ·exact ⟨Nat.le_refl _, by simp⟩
theorem PassOn_any (A : Option Addr) (c : Nat) (R : Option Addr) (d : Nat) (v : Vg) (o : Int) (B : Option Addr) (e : Nat) (hl : List Int) (w : World) (h : RdT w w.heap.size A c v.book.evs) (h' : RdT w w.heap.size R d v.rights) (hi : RdI w w.heap.size B e hl) (hs : v.book.evs.length + v.rights.length ≤ 1048576) :
  Calls Tryz.prog 68 #[v.val A c R d, .int .i64 o, .slice B hl.length e] w (VgRet (vPass v o hl) w) := vPass_any A c R d v o B e hl w h h' hi (by omega) (by omega)
end
section
open Go.RowKit
set_option maxRecDepth 20000
def bi (r : Vg × Bool) : Vg × Int := (r.1, if r.2 then 1 else 0)
def doAct (v : Vg) (k a b : Int) : Vg × Int :=
 if villageOk v = true ∧ actOk k a b = true then
  if k = 1 then bi (vEnter v ⟨1, a, 0⟩) else if k = 2 then bi (vDrink v a b) else if k = 3 then bi (vEnter v ⟨3, a, 0⟩)
  else if k = 4 then bi (vSell v a b 1 2) else if k = 5 then bi (vPass v a [b, b + 1]) else (v, mayDrink v a)
 else (v, -1)
def VgRetI (r : Vg × Int) (w : World) (e : Ending) (w' : World) : Prop := ∃ A c R d, e = .returned (.tuple #[r.1.val A c R d, .int .i64 r.2]) ∧ w'.ownsRow w.heap.size 120 3 (.slice A r.1.book.evs.length c) r.1.book.evs.length (t3s r.1.book.evs) ∧ w'.ownsRow w.heap.size 69 3 (.slice R r.1.rights.length d) r.1.rights.length (t3s r.1.rights) ∧ Below w.heap.size w w'
theorem actOk_kind {k a b : Int} (h : actOk k a b = true) : k = 1 ∨ k = 2 ∨ k = 3 ∨ k = 4 ∨ k = 5 ∨ k = 6 := by
 unfold actOk at h
 repeat' split at h
 all_goals first | omega | simp at h
theorem actOk_5 {a b : Int} (h : actOk 5 a b = true) : 1 ≤ b ∧ b ≤ 98 := by
 unfold actOk inB at h
 simp at h
 omega
theorem doAct_len (v : Vg) (k a b : Int) : (doAct v k a b).1.book.evs.length ≤ v.book.evs.length + 1 ∧ (doAct v k a b).1.rights.length ≤ v.rights.length + 12 := by
 have h1 := vEnter_len v ⟨1, a, 0⟩
 have h2 := vDrink_len v a b
 have h3 := vEnter_len v ⟨3, a, 0⟩
 have h4 := vSell_len v a b 1 2
 have h5 := vPass_len v a [b, b + 1]
 unfold doAct bi
 repeat' split
 all_goals (simp only; omega)
/-- Two ints of a made array. -/
theorem rd_two {W : World} {g : Nat} {t : TypeId} {a b : Int} (h : Blk W g t #[.int .i64 a, .int .i64 b]) : RdI W W.heap.size (some ⟨g, 0, none⟩) 2 [a, b] :=
 ⟨by simp [ints], by simp, by omega, fun _ => ⟨g, 0, rfl, h.lt, fun j u hu => by
  match j, hu with
  |0, hu => simp [ints] at hu; subst hu; simpa using h.cell 0
  |1, hu => simp [ints] at hu; subst hu; simpa using h.cell 1
  |j + 2, hu => simp [ints] at hu⟩⟩
end
section
open Go.RowKit
set_option maxRecDepth 20000
/-- The acts one after another. -/
def runL (v : Vg) (l : List T3) : Vg × List Int := l.foldl (fun p a => ((doAct p.1 a.x a.y a.z).1, p.2 ++ [(doAct p.1 a.x a.y a.z).2])) (v, [])
def runActs (v : Vg) (l : List T3) : Vg × List Int := if villageOk v = true ∧ l.length ≤ 40 then runL v l else (v, [])
theorem runL_nil (v : Vg) : runL v [] = (v, []) := rfl
theorem runL_snoc (v : Vg) (l : List T3) (a : T3) : runL v (l ++ [a]) = ((doAct (runL v l).1 a.x a.y a.z).1, (runL v l).2 ++ [(doAct (runL v l).1 a.x a.y a.z).2]) := by
 unfold runL; rw [List.foldl_append]; rfl
theorem runL_next {v cv cv2 : Vg} {l : List T3} {nm : List Int} {k : Nat} {a : T3} {m : Int} (h : runL v (l.take k) = (cv, nm)) (ha : l[k]? = some a) (hd : doAct cv a.x a.y a.z = (cv2, m)) : runL v (l.take (k + 1)) = (cv2, nm ++ [m]) := by
 rw [take_snocT ha, runL_snoc, h]
 simp only [hd]
theorem runL_facts (v : Vg) (l : List T3) : ∀ k, k ≤ l.length → (runL v (l.take k)).2.length = k ∧ (runL v (l.take k)).1.book.evs.length ≤ v.book.evs.length + k ∧ (runL v (l.take k)).1.rights.length ≤ v.rights.length + 12 * k
 |0, _ => by simp [runL_nil]
 |k + 1, h => by
  obtain ⟨h1, h2, h3⟩ := runL_facts v l k (by omega)
  have ha : l[k]? = some l[k] := List.getElem?_eq_getElem (by omega)
  have h4 := doAct_len (runL v (l.take k)).1 l[k].x l[k].y l[k].z
  rw [take_snocT ha, runL_snoc]
  simp only [List.length_append, List.length_cons, List.length_nil]
  omega
theorem book_40 {b : Bk} (h : bookOk b = true) : b.evs.length ≤ 40 := by
 rcases Nat.lt_or_ge 40 b.evs.length with h1 | h1
 ·rw [bookOk_eq (countBk_no (.inr (.inr (by omega))))] at h
  simp at h
 ·exact h1
theorem vg_lens {v : Vg} (h : villageOk v = true) : v.book.evs.length ≤ 40 ∧ v.rights.length ≤ 12 := by
 unfold villageOk at h
 simp only [Bool.and_eq_true] at h
 exact ⟨book_40 h.1, (rights_facts h.2).1⟩
/-- What comes back: the village's rows lie together, the numbers before or behind them. -/
def RunRet (r : Vg × List Int) (w : World) (e : Ending) (w' : World) : Prop := ∃ A c R d B n, e = .returned (.tuple #[r.1.val A c R d, .slice B r.2.length n]) ∧ ∃ lo hi lp hq : Nat, w.heap.size ≤ lo ∧ hi ≤ w'.heap.size ∧ w.heap.size ≤ lp ∧ hq ≤ w'.heap.size ∧ (hi ≤ lp ∨ hq ≤ lo) ∧ Row2 w' lo hi 120 3 A r.1.book.evs.length c (t3s r.1.book.evs) ∧ Row2 w' lo hi 69 3 R r.1.rights.length d (t3s r.1.rights) ∧ Row2 w' lp hq 3 1 B r.2.length n (ints r.2) ∧ Below w.heap.size w w'
theorem row_nil (w : World) (k : Nat) : Row2 w k k 3 1 none 0 0 (ints []) := ⟨own_nil w k, fun g hg => by simp [Value.ownBlock] at hg⟩
/-- one int appended to an owned row: the row's block is the old one or the world's next. -/
theorem wpList_app1_at {w : World} {ops : Array Oper} {rest : List Oper} {o : Oper} {a : Act} {Q : Exit → Act → World → Prop} (hgd : o.guard = none) (s x : Operand)
  (ho : o.op = .call { callee := .builtin .append, args := #[s, x], argTypes := #[41, 41] })
  (base : Nat) (A : Option Addr) (c : Nat) (l : List Int) (hs : a.eval s = .slice A l.length c) (hown : OwnI w base A c l)
  (g : Nat) (y : Int) (hx : a.eval x = .slice (some ⟨g, 0, none⟩) 1 1) (hc : w.cell? ⟨g, 0, none⟩ = some (.int .i64 y)) (hlen : l.length ≤ 1099511627776) (hbase : base ≤ w.heap.size)
  (h : ∀ A' c' w', OwnI w' base A' c' (l ++ [y]) → w.grownBy w' (Value.slice A l.length c).ownBlock → ((Value.slice A' (l.length + 1) c').ownBlock = (Value.slice A l.length c).ownBlock ∨ (Value.slice A' (l.length + 1) c').ownBlock = some w.heap.size) → wpList Tryz.prog ops Q rest (a.put o.dst (.slice A' (l.length + 1) c')) w') :
  wpList Tryz.prog ops Q (o :: rest) a w := by
 obtain ⟨i0, hi, hz0, hz1, hz2⟩ := info_parts infoI
 refine wpList_append_own_at _ hgd s x 41 ho base 3 i0 (.int .i64 0) 1 8 Tryz.underlying41 hi hz0 hz1 hz2 rfl (by decide) _ _ _ hs hown ⟨g, 0, none⟩ 1 1 [.int .i64 y] hx rfl ?_ ?_ (by unfold maxLen; omega) (by omega) hbase ?_
 ·intro j u hj
  match j, hj with
  |0, hj => simp at hj; subst hj; rw [Addr.add_lit]; exact hc
 ·intro u hu; simp at hu; subst hu; rfl
 ·intro v' w1 hown' hgrow _ hb
  have hex : ∃ A' c', v' = .slice A' (l.length + 1) c' := by
   rcases hown'.2 with ⟨rfl, h0⟩ | ⟨g', cap, cur, rfl, _⟩
   ·omega
   ·exact ⟨_, _, rfl⟩
  obtain ⟨A', c', rfl⟩ := hex
  refine h A' c' w1 ?_ hgrow hb
  unfold OwnI
  rw [List.length_append]
  have e : ints (l ++ [y]) = ints l ++ [.int .i64 y] := by unfold ints; rw [List.map_append]; rfl
  rw [e]
  exact hown'
theorem own_rebase {w : World} {base base' g : Nat} {e : TypeId} {sz n c : Nat} {A : Option Addr} {xs : List Value} (h : w.ownsRow base e sz (.slice A n c) n xs) (hg : (Value.slice A n c).ownBlock = some g) (hb : base' ≤ g) : w.ownsRow base' e sz (.slice A n c) n xs := by
 refine ⟨h.1, ?_⟩
 rcases h.2 with ⟨h1, h2⟩ | ⟨g', cap, cur, hv, hg', r⟩
 ·exact .inl ⟨h1, h2⟩
 ·rw [hv] at hg
  have e1 : g' = g := Option.some.inj hg
  exact .inr ⟨g', cap, cur, hv, by omega, r⟩
theorem app_row {w w6 : World} {lp hq g c c' : Nat} {A A' : Option Addr} {l : List Int} {y : Int} (hr : Row2 w lp hq 3 1 A l.length c (ints l)) (ho : OwnI w6 lp A' c' (l ++ [y])) (hd : (Value.slice A' (l.length + 1) c').ownBlock = (Value.slice A l.length c).ownBlock ∨ (Value.slice A' (l.length + 1) c').ownBlock = some g) :
  Row2 w6 lp hq 3 1 A' (l ++ [y]).length c' (ints (l ++ [y])) ∨ (Row2 w6 g (g + 1) 3 1 A' (l ++ [y]).length c' (ints (l ++ [y])) ∧ g < w6.heap.size) := by
 have hl : (l ++ [y]).length = l.length + 1 := by simp
 unfold OwnI at ho
 rw [hl] at ho ⊢
 rcases hd with hd | hd
 ·exact .inl ⟨ho, fun k hk => hr.2 k (hd ▸ hk)⟩
 ·exact .inr ⟨⟨own_rebase ho hd (Nat.le_refl _), fun k hk => by rw [hd] at hk; have := Option.some.inj hk; omega⟩, (ho.lt g hd).2⟩
end
section
theorem enter_keeps {b : Bk} (h : bookOk b = true) (e : T3) : bookOk (enter b e).1 = true := by
 by_cases hl : b.evs.length < 40
 ·cases he : (evOn b.level b.room e.x e.y e.z).2.2.2.2
  ·rw [enter_book h e hl, he]; exact h
  ·exact enter_ok h e hl he
 ·have h2 : enter b e = (b, false) := by unfold enter enterOk; simp [hl]
  rw [h2]; exact h
theorem vg_parts {v : Vg} (h : villageOk v = true) : bookOk v.book = true ∧ rightsOk v.rights = true := by
 unfold villageOk at h
 simpa only [Bool.and_eq_true] using h
theorem vg_made {b : Bk} {r : List T3} (h1 : bookOk b = true) (h2 : rightsOk r = true) : villageOk ⟨b, r⟩ = true := by
 unfold villageOk; rw [h1, h2]; rfl
theorem vEnter_keeps {v : Vg} (h : villageOk v = true) (e : T3) : villageOk (vEnter v e).1 = true := by
 unfold vEnter
 rw [if_pos h]
 exact vg_made (enter_keeps (vg_parts h).1 e) (vg_parts h).2
theorem vDrink_keeps {v : Vg} (h : villageOk v = true) (o n : Int) : villageOk (vDrink v o n).1 = true := by
 unfold vDrink
 split
 ·exact h
 ·exact vEnter_keeps h _
theorem vSell_keeps {v : Vg} (h : villageOk v = true) (f t a b : Int) : villageOk (vSell v f t a b).1 = true := by
 unfold vSell
 rw [if_pos h]
 exact vg_made (vg_parts h).1 (sell_rights (vg_parts h).2)
theorem inh_rights {l : List T3} {o : Int} {hs : List Int} (hl : rightsOk l = true) : rightsOk (inhF l o hs).1 = true := by
 cases hg : inhG l o hs
 ·rw [inhF_no hg]; exact hl
 cases ht : inhTo l o hs with
 |none => rw [inhF_none ht]; exact hl
 |some r =>
  rw [inhF_some hg ht]
  split
  ·assumption
  ·exact hl
theorem vPass_keeps {v : Vg} (h : villageOk v = true) (o : Int) (hl : List Int) : villageOk (vPass v o hl).1 = true := by
 unfold vPass
 rw [if_pos h]
 exact vg_made (vg_parts h).1 (inh_rights (vg_parts h).2)
theorem doAct_keeps {v : Vg} (h : villageOk v = true) (k a b : Int) : villageOk (doAct v k a b).1 = true := by
 unfold doAct bi
 by_cases h0 : villageOk v = true ∧ actOk k a b = true
 ·rw [if_pos h0]
  by_cases h1 : k = 1
  ·rw [if_pos h1]; exact vEnter_keeps h _
  rw [if_neg h1]
  by_cases h2 : k = 2
  ·rw [if_pos h2]; exact vDrink_keeps h _ _
  rw [if_neg h2]
  by_cases h3 : k = 3
  ·rw [if_pos h3]; exact vEnter_keeps h _
  rw [if_neg h3]
  by_cases h4 : k = 4
  ·rw [if_pos h4]; exact vSell_keeps h _ _ _ _
  rw [if_neg h4]
  by_cases h5 : k = 5
  ·rw [if_pos h5]; exact vPass_keeps h _ _
  rw [if_neg h5]; exact h
 ·rw [if_neg h0]; exact h
theorem runL_keeps {v : Vg} (h : villageOk v = true) (l : List T3) : ∀ k, k ≤ l.length → villageOk (runL v (l.take k)).1 = true
 |0, _ => by simpa [runL_nil] using h
 |k + 1, hk => by
  have ha : l[k]? = some l[k] := List.getElem?_eq_getElem (by omega)
  rw [take_snocT ha, runL_snoc]
  exact doAct_keeps (runL_keeps h l k (by omega)) _ _ _
theorem run_keeps {v : Vg} (h : villageOk v = true) {l : List T3} (hl : l.length ≤ 40) : villageOk (runActs v l).1 = true ∧ (runActs v l).2.length = l.length := by
 unfold runActs
 rw [if_pos ⟨h, hl⟩]
 have h1 := runL_keeps h l l.length (Nat.le_refl _)
 have h2 := (runL_facts v l l.length (Nat.le_refl _)).1
 rw [List.take_length] at h1 h2
 exact ⟨h1, h2⟩
end
section
theorem rightAt_of_not {l : List T3} {o : Int} (h : hasO l o = false) : rightAt l o = -1 := by
 rcases rightAt_split l o with ⟨h1, _⟩ | ⟨p, e, s, h1, h2, _, _⟩
 ·exact h1
 ·rw [h1] at h; simp [hasO, h2] at h
theorem vg_ok {v : Vg} (h : villageOk v = true) : bookOk v.book = true ∧ rightsOk v.rights = true := by
 unfold villageOk at h
 simpa using h
theorem may_have {l : List T3} {o : Int} (hl : rightsOk l = true) (ho : hasO l o = true) : ∃ y z, 0 ≤ y ∧ 1 ≤ z ∧ fracOk y z = true ∧ 1 ≤ o ∧ o ≤ 999 ∧ ∀ b, bookOk b = true → mayDrink ⟨b, l⟩ o = max 0 (partOf y z (min 1000000 (b.start + b.rained)) - dby o b.evs) := by
 rcases rightAt_cases l o with ⟨h1, h2⟩ | ⟨k, t, h1, h2, h3, h4, h5⟩
 ·simp only [hasO, List.any_eq_true] at ho
  obtain ⟨e, he, hx⟩ := ho
  exact absurd (by simpa using hx) (h2 e he)
 ·have hf := (rights_facts hl).2.2 t (List.mem_of_getElem? h3)
  have hq := fracOk_iff hf.1
  refine ⟨t.y, t.z, by omega, by omega, hf.1, by omega, by omega, fun b hb => ?_⟩
  have hv : villageOk ⟨b, l⟩ = true := by unfold villageOk; rw [hb, hl]; rfl
  rw [may_some (v := ⟨b, l⟩) hv h1 h5]
  show max 0 (_ - drunkBy b o) = _
  rw [drunkBy_eq hb]
theorem may_not {v : Vg} {o : Int} (hv : villageOk v = true) (ho : hasO v.rights o = false) : mayDrink v o = 0 := may_none hv (rightAt_of_not ho)
end
end Go.Proofs.YtpmmjhpmheooeaaGreatDoor
