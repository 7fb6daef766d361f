/- Texts of the proof, joined: VillSell, Inh. -/
import Derived.Test.YtpmmjhpmheooeaaGreatDoorQ23
import Derived.Test.YtpmmjhpmheooeaaGreatDoorQ24
import Derived.Test.YtpmmjhpmheooeaaGreatDoorQ18
import Derived.Test.YtpmmjhpmheooeaaGreatDoorQ17
namespace Go.Proofs.YtpmmjhpmheooeaaGreatDoor
set_option linter.unusedSimpArgs false
set_option linter.unusedVariables false
section
open Go.RowKit
set_option maxRecDepth 20000
def vSell (v : Vg) (f t a b : Int) : Vg × Bool := if villageOk v then (⟨v.book, (sellF v.rights f t a b).1⟩, (sellF v.rights f t a b).2) else (v, false)
set_option maxHeartbeats 3200000 in
theorem vSell_any (A : Option Addr) (c : Nat) (R : Option Addr) (d : Nat) (v : Vg) (f t a b : Int) (w : World) (h : RdT w w.heap.size A c v.book.evs) (h' : RdT w w.heap.size R d v.rights) (hs : v.book.evs.length ≤ 1048576) (hs' : v.rights.length ≤ 1048576) :
  Calls Tryz.prog 67 #[v.val A c R d, .int .i64 f, .int .i64 t, .agg #[.int .i64 a, .int .i64 b]] w (VgRet (vSell v f t a b) w) := by
 have hB := Below.refl w.heap.size w
 have h1 := fun (W : World) (hb : Below w.heap.size w W) => copyVillage_any A c R d v W (h.below hb) (h'.below hb) hs hs'
 have h2 := fun (W : World) (hb : Below w.heap.size w W) => VillageOk_any A c R d v W (h.below hb) (h'.below hb) hs
 have h3 := fun (W : World) (hb : Below w.heap.size w W) => SellShare_any R d v.rights f t a b W (h'.below hb) hs'
 cases hv : villageOk v
 ·have hst : vSell v f t a b = (v, false) := by unfold vSell; rw [hv]; rfl
  rw [hst]
  rw [hv] at h2
  unfold VgRet
  unfold VgOwn at h1
  unfold Vg.val at h1 h2 ⊢
  obtain ⟨⟨room, start, l, lv, ra, dr, lo⟩, rs⟩ := v
  simp only at h h' hs hs' h1 h2 ⊢
  have H1 := Lib.hid h1
  have H2 := Lib.hid h2
  clear h1 h2 h3 hv hst
  go_enter Tryz.func67, Tryz.ntmps67
  go_wp2_with fail
  first | refine name_world ?_ | refine name_wp ?_
  intro W1 hW
  replace hB : Below w.heap.size w W1 := by rw [hW]; exact tacT
  have hz_W1 : w.heap.size ≤ W1.heap.size := by rw [hW]; exact sT
  replace kb_p : Blk W1 (w.heap.size) 35 #[.int .i64 room, .int .i64 start, .slice A l.length c, .int .i64 lv, .int .i64 ra, .int .i64 dr, .int .i64 lo, .slice R rs.length d] := by rw [hW]; exact blkT
  have hLW1_p := kb_p.lt
  replace kb_r : Blk W1 (w.heap.size + 2) 35 #[.int .i64 0, .int .i64 0, .slice none 0 0, .int .i64 0, .int .i64 0, .int .i64 0, .int .i64 0, .slice none 0 0] := by rw [hW]; exact blkT
  have hLW1_r := kb_r.lt
  try clear kc_p kf_p
  try clear kc_r kf_r
  clear hW
  refine (H1.out _ hB).mono ?_
  rintro e w1 ⟨A1, c1, R1, d1, rfl, ⟨ho1, ho2⟩, hb⟩
  have hr_e := Row2.born ho1
  have hr_s := Row2.born ho2
  clear ho1 ho2
  replace hB := hB.trans (Below.mono hb hB.size)
  have hz_w1 : W1.heap.size ≤ w1.heap.size := Below.size hb
  replace kb_p := kb_p.mv hb; obtain ⟨kb_p, kc_p, kf_p, hl_p, hn_p⟩ := kb_p
  replace kb_r := kb_r.mv hb; obtain ⟨kb_r, kc_r, kf_r, hl_r, hn_r⟩ := kb_r
  clear hb
  go_wp2_with fail
  first | refine name_world ?_ | refine name_wp ?_
  intro W2 hW
  replace hB : Below w.heap.size w W2 := by rw [hW]; exact tacT
  have hz_W2 : w1.heap.size ≤ W2.heap.size := by rw [hW]; exact sT
  replace kb_p : Blk W2 (w.heap.size) 35 #[.int .i64 room, .int .i64 start, .slice A l.length c, .int .i64 lv, .int .i64 ra, .int .i64 dr, .int .i64 lo, .slice R rs.length d] := by rw [hW]; exact blkT
  have hLW2_p := kb_p.lt
  replace kb_r : Blk W2 (w.heap.size + 2) 35 #[.int .i64 0, .int .i64 0, .slice none 0 0, .int .i64 0, .int .i64 0, .int .i64 0, .int .i64 0, .slice none 0 0] := by rw [hW]; exact blkT
  have hLW2_r := kb_r.lt
  replace kb_o : Blk W2 (w1.heap.size) 35 #[.int .i64 room, .int .i64 start, .slice A1 l.length c1, .int .i64 lv, .int .i64 ra, .int .i64 dr, .int .i64 lo, .slice R1 rs.length d1] := by rw [hW]; exact blkT
  have hLW2_o := kb_o.lt
  replace hr_e : Row2 W2 (W1.heap.size) (w1.heap.size) 120 3 A1 (l.length) c1 (t3s l) := by rw [hW]; exact rowT
  replace hr_s : Row2 W2 (W1.heap.size) (w1.heap.size) 69 3 R1 (rs.length) d1 (t3s rs) := by rw [hW]; exact rowT
  try clear kc_p kf_p
  try clear kc_r kf_r
  try clear kc_o kf_o
  clear hW
  refine (H2.out _ hB).mono ?_
  rintro e w2 ⟨rfl, hb⟩
  replace hB := hB.trans (Below.mono hb hB.size)
  have hz_w2 : W2.heap.size ≤ w2.heap.size := Below.size hb
  replace kb_p := kb_p.mv hb; obtain ⟨kb_p, kc_p, kf_p, hl_p, hn_p⟩ := kb_p
  replace kb_r := kb_r.mv hb; obtain ⟨kb_r, kc_r, kf_r, hl_r, hn_r⟩ := kb_r
  replace kb_o := kb_o.mv hb; obtain ⟨kb_o, kc_o, kf_o, hl_o, hn_o⟩ := kb_o
  replace hr_e := Row2.below hr_e hb (by omega)
  replace hr_s := Row2.below hr_s hb (by omega)
  clear hb
  go_wp2_with fail
  refine bodyPost_ret (v := .tuple #[.agg #[.int .i64 room, .int .i64 start, .slice A1 l.length c1, .int .i64 lv, .int .i64 ra, .int .i64 dr, .int .i64 lo, .slice R1 rs.length d1], .bool false]) ?_ rfl ?_
  ·simp [results, Tryz.results67, go_sem, kc_r, kc_o]
  ·exact ⟨A1, c1, R1, d1, rfl, (Row2.mono (lo := W1.heap.size) (hi := w1.heap.size) (hi' := w1.heap.size) (by exact rowT) (by omega) (Nat.le_refl _)).1, (Row2.mono (lo := W1.heap.size) (hi := w1.heap.size) (hi' := w1.heap.size) (by exact rowT) (by omega) (Nat.le_refl _)).1, by exact tacT⟩
 ·have hst : vSell v f t a b = (⟨v.book, (sellF v.rights f t a b).1⟩, (sellF v.rights f t a b).2) := by unfold vSell; rw [hv]; rfl
  rw [hst]
  rw [hv] at h2
  unfold SellRet at h3
  obtain ⟨⟨rs', ok⟩, hE⟩ : ∃ r, sellF v.rights f t a b = r := ⟨_, rfl⟩
  rw [hE] at h3 ⊢
  unfold VgRet
  unfold VgOwn at h1
  unfold Vg.val at h1 h2 ⊢
  obtain ⟨⟨room, start, l, lv, ra, dr, lo⟩, rs⟩ := v
  simp only at h h' hs hs' h1 h2 h3 ⊢
  have H1 := Lib.hid h1
  have H2 := Lib.hid h2
  have H3 := Lib.hid h3
  clear h1 h2 h3 hv hst hE
  go_enter Tryz.func67, Tryz.ntmps67
  go_wp2_with fail
  first | refine name_world ?_ | refine name_wp ?_
  intro W1 hW
  replace hB : Below w.heap.size w W1 := by rw [hW]; exact tacT
  have hz_W1 : w.heap.size ≤ W1.heap.size := by rw [hW]; exact sT
  replace kb_p : Blk W1 (w.heap.size) 35 #[.int .i64 room, .int .i64 start, .slice A l.length c, .int .i64 lv, .int .i64 ra, .int .i64 dr, .int .i64 lo, .slice R rs.length d] := by rw [hW]; exact blkT
  have hLW1_p := kb_p.lt
  replace kb_q : Blk W1 (w.heap.size + 1) 67 #[.int .i64 a, .int .i64 b] := by rw [hW]; exact blkT
  have hLW1_q := kb_q.lt
  replace kb_r : Blk W1 (w.heap.size + 2) 35 #[.int .i64 0, .int .i64 0, .slice none 0 0, .int .i64 0, .int .i64 0, .int .i64 0, .int .i64 0, .slice none 0 0] := by rw [hW]; exact blkT
  have hLW1_r := kb_r.lt
  try clear kc_p kf_p
  try clear kc_q kf_q
  try clear kc_r kf_r
  clear hW
  refine (H1.out _ hB).mono ?_
  rintro e w1 ⟨A1, c1, R1, d1, rfl, ⟨ho1, ho2⟩, hb⟩
  have hr_e := Row2.born ho1
  clear ho1 ho2
  replace hB := hB.trans (Below.mono hb hB.size)
  have hz_w1 : W1.heap.size ≤ w1.heap.size := Below.size hb
  replace kb_p := kb_p.mv hb; obtain ⟨kb_p, kc_p, kf_p, hl_p, hn_p⟩ := kb_p
  replace kb_q := kb_q.mv hb; obtain ⟨kb_q, kc_q, kf_q, hl_q, hn_q⟩ := kb_q
  replace kb_r := kb_r.mv hb; obtain ⟨kb_r, kc_r, kf_r, hl_r, hn_r⟩ := kb_r
  clear hb
  go_wp2_with fail
  first | refine name_world ?_ | refine name_wp ?_
  intro W2 hW
  replace hB : Below w.heap.size w W2 := by rw [hW]; exact tacT
  have hz_W2 : w1.heap.size ≤ W2.heap.size := by rw [hW]; exact sT
  replace kb_p : Blk W2 (w.heap.size) 35 #[.int .i64 room, .int .i64 start, .slice A l.length c, .int .i64 lv, .int .i64 ra, .int .i64 dr, .int .i64 lo, .slice R rs.length d] := by rw [hW]; exact blkT
  have hLW2_p := kb_p.lt
  replace kb_q : Blk W2 (w.heap.size + 1) 67 #[.int .i64 a, .int .i64 b] := by rw [hW]; exact blkT
  have hLW2_q := kb_q.lt
  replace kb_r : Blk W2 (w.heap.size + 2) 35 #[.int .i64 0, .int .i64 0, .slice none 0 0, .int .i64 0, .int .i64 0, .int .i64 0, .int .i64 0, .slice none 0 0] := by rw [hW]; exact blkT
  have hLW2_r := kb_r.lt
  replace kb_o : Blk W2 (w1.heap.size) 35 #[.int .i64 room, .int .i64 start, .slice A1 l.length c1, .int .i64 lv, .int .i64 ra, .int .i64 dr, .int .i64 lo, .slice R1 rs.length d1] := by rw [hW]; exact blkT
  have hLW2_o := kb_o.lt
  replace hr_e : Row2 W2 (W1.heap.size) (w1.heap.size) 120 3 A1 (l.length) c1 (t3s l) := by rw [hW]; exact rowT
  try clear kc_p kf_p
  try clear kc_q kf_q
  try clear kc_r kf_r
  try clear kc_o kf_o
  clear hW
  refine (H2.out _ hB).mono ?_
  rintro e w2 ⟨rfl, hb⟩
  replace hB := hB.trans (Below.mono hb hB.size)
  have hz_w2 : W2.heap.size ≤ w2.heap.size := Below.size hb
  replace kb_p := kb_p.mv hb; obtain ⟨kb_p, kc_p, kf_p, hl_p, hn_p⟩ := kb_p
  replace kb_q := kb_q.mv hb; obtain ⟨kb_q, kc_q, kf_q, hl_q, hn_q⟩ := kb_q
  replace kb_r := kb_r.mv hb; obtain ⟨kb_r, kc_r, kf_r, hl_r, hn_r⟩ := kb_r
  replace kb_o := kb_o.mv hb; obtain ⟨kb_o, kc_o, kf_o, hl_o, hn_o⟩ := kb_o
  replace hr_e := Row2.below hr_e hb (by omega)
  clear hb
  go_wp2_with fail
  refine (H3.out _ hB).mono ?_
  rintro e w3 ⟨R3, d3, rfl, ho3, hb⟩
  have hr_s := Row2.born ho3
  clear ho3
  replace hB := hB.trans (Below.mono hb hB.size)
  have hz_w3 : w2.heap.size ≤ w3.heap.size := Below.size hb
  replace kb_p := kb_p.mv hb; obtain ⟨kb_p, kc_p, kf_p, hl_p, hn_p⟩ := kb_p
  replace kb_q := kb_q.mv hb; obtain ⟨kb_q, kc_q, kf_q, hl_q, hn_q⟩ := kb_q
  replace kb_r := kb_r.mv hb; obtain ⟨kb_r, kc_r, kf_r, hl_r, hn_r⟩ := kb_r
  replace kb_o := kb_o.mv hb; obtain ⟨kb_o, kc_o, kf_o, hl_o, hn_o⟩ := kb_o
  replace hr_e := Row2.below hr_e hb (by omega)
  clear hb
  go_wp2_with fail
  refine bodyPost_ret (v := .tuple #[.agg #[.int .i64 room, .int .i64 start, .slice A1 l.length c1, .int .i64 lv, .int .i64 ra, .int .i64 dr, .int .i64 lo, .slice R3 rs'.length d3], .bool ok]) ?_ rfl ?_
  ·simp [results, Tryz.results67, go_sem, kc_r, kc_o, hl_r, hn_r, hl_o, hn_o]
  ·exact ⟨A1, c1, R3, d3, rfl, (Row2.mono (lo := W1.heap.size) (hi := w1.heap.size) (hi' := w1.heap.size) (by exact rowT) (by omega) (Nat.le_refl _)).1, (Row2.mono (lo := w2.heap.size) (hi := w3.heap.size) (hi' := w3.heap.size) (by exact rowT) (by omega) (Nat.le_refl _)).1, by exact tacT⟩
theorem vSell_len (v : Vg) (f t a b : Int) : (vSell v f t a b).1.book.evs.length ≤ v.book.evs.length ∧ (vSell v f t a b).1.rights.length ≤ v.rights.length + 12 := by
 unfold vSell
 split
 ·refine ⟨Nat.le_refl _, ?_⟩
  have := sellF_len v.rights f t a b
  simp only; omega
 ·exact ⟨Nat.le_refl _, by simp⟩
theorem Sell_any (A : Option Addr) (c : Nat) (R : Option Addr) (d : Nat) (v : Vg) (f t a b : Int) (w : World) (h : RdT w w.heap.size A c v.book.evs) (h' : RdT w w.heap.size R d v.rights) (hs : v.book.evs.length + v.rights.length ≤ 1048576) :
  Calls Tryz.prog 67 #[v.val A c R d, .int .i64 f, .int .i64 t, .agg #[.int .i64 a, .int .i64 b]] w (VgRet (vSell v f t a b) w) := vSell_any A c R d v f t a b w h h' (by omega) (by omega)
end
section
open Go.RowKit
set_option maxRecDepth 20000
theorem inhG_iff {l : List T3} {o : Int} {hs : List Int} : inhG l o hs = true ↔ rightsOk l = true ∧ hasO l o = true ∧ inB hs.length 1 6 = true ∧ riseB 0 hs = true ∧ ¬ o ∈ hs := by
 unfold inhG
 simp only [Bool.and_eq_true, Bool.not_eq_true', decide_eq_false_iff_not, and_assoc]
theorem inhG_no {l : List T3} {o : Int} {hs : List Int} (h : ¬ (rightsOk l = true ∧ hasO l o = true ∧ inB hs.length 1 6 = true ∧ riseB 0 hs = true ∧ ¬ o ∈ hs)) : inhF l o hs = (l, false) :=
 inhF_no (Bool.eq_false_iff.2 (fun hg => h (inhG_iff.1 hg)))
theorem inhTo_is {l : List T3} {o y z s1 s2 : Int} {hs : List Int} {ok : Bool} (gs : shareOf l o = (y, z)) (hq : splitF y z hs.length = (s1, s2, ok)) : inhTo l o hs = if ok then addAll (cutS l o 0 1) hs s1 s2 else none := by
 unfold inhTo
 simp only [gs, hq]
theorem inhF_len (l : List T3) (o : Int) (hs : List Int) : (inhF l o hs).1.length ≤ l.length + 12 := by
 unfold inhF
 split
 ·split
  ·split
   ·rename_i h; have := (rights_facts h).1; simp only; omega
   ·simp
  ·simp
 ·simp
theorem splitF_pos {y z s1 s2 : Int} {n : Nat} (hy : 1 ≤ y) (h : splitF y z n = (s1, s2, true)) : fracOk s1 s2 = true ∧ 1 ≤ s1 := by
 unfold splitF at h
 split at h
 ·rename_i hf
  simp only [Bool.and_eq_true] at hf
  obtain ⟨_, _, z1, _⟩ := fracOk_iff hf.1
  obtain ⟨n1, _⟩ := inB_iff.1 hf.2
  have h3 : 1 ≤ z * n := Int.mul_pos (by omega) (by omega)
  have h4 : 1 ≤ (z * n).toNat := by omega
  exact ⟨(redF_ok h4 h).1, redF_pos h4 (by omega) h⟩
 ·simp at h
/-- How the heirs' walk goes on. -/
theorem addAll_end {l : List T3} {o y z s1 s2 : Int} {hs : List Int} (hG : inhG l o hs = true) (gs : shareOf l o = (y, z)) (hq : splitF y z hs.length = (s1, s2, true)) :
  inhF l o hs = match addAll (cutS l o 0 1) hs s1 s2 with | some r => if rightsOk r then (r, true) else (l, false) | none => (l, false) := by
 have h1 := inhTo_is gs hq
 rw [if_pos rfl] at h1
 cases h2 : addAll (cutS l o 0 1) hs s1 s2 with
 |none => rw [inhF_none (by rw [h1, h2])]
 |some r => rw [inhF_some hG (by rw [h1, h2])]
set_option maxHeartbeats 1600000 in
theorem rising_any (A : Option Addr) (c : Nat) (l : List Int) (w : World) (h : RdI w w.heap.size A c l) :
  Calls Tryz.prog 132 #[.slice A l.length c, .int .i64 1, .int .i64 999] w fun e w' => e = .returned (.bool (riseB 0 l)) ∧ w = w' := by
 obtain ⟨hl, hm⟩ := h.le
 obtain ⟨R, hR⟩ : ∃ R, R = riseB 0 l := ⟨_, rfl⟩
 rw [← hR]
 go_enter Tryz.func132, Tryz.ntmps132
 go_wp2_with fail
 go_loop [11] (fun i => ∃ (k : Nat) (p : Int), k ≤ l.length ∧ i = .int .i64 k ∧ Hid (R = riseB p (l.drop k)) ∧ Hid ((k = 0 → p = 0) ∧ (0 < k → l[k - 1]? = some p))) (fun i => l.length - (intOf i).toNat)
 case atStart => exact ⟨0, 0, Nat.zero_le _, rfl, by rw [hR]; rfl, ⟨fun _ => rfl, fun h9 => by omega⟩⟩
 case round =>
  clear hR
  obtain ⟨k, p, hk, rfl, HR, HP⟩ := hrel
  by_cases hlt : k < l.length
  ·obtain ⟨bb, oo, x, hA, hbb, hx, e0⟩ := h.at_ hlt
   have hk0 : (0 : Int) ≤ (k : Int) := by omega
   have hk1 : (k : Int) < (l.length : Int) := by omega
   have HN := HR.out
   rw [drop_cons hx, riseB_cons] at HN
   have HX := Lib.hid hx
   have hprev : 0 < k → w.cell? ⟨bb, oo + (k - 1), none⟩ = some (.int .i64 p) := fun h0 => by
    obtain ⟨b2, o2, y, hA2, _, hy, e1⟩ := h.at_ (k := k - 1) (by omega)
    rw [hA] at hA2
    simp only [Option.some.injEq, Addr.mk.injEq, and_true] at hA2
    obtain ⟨rfl, rfl⟩ := hA2
    rw [HP.out.2 h0] at hy
    rw [Option.some.inj hy]; exact e1
   subst hA
   clear hx
   cases h1 : inB x 1 999
   ·have HZ : Hid (R = false) := by rw [h1] at HN; exact HN
    have H1 := Lib.hid h1
    clear HN h1 hprev
    go_wp2_with (go_at_call 97; refine (within_any _ _ _ _).mono ?_; rw [H1.out]; rintro e w' ⟨rfl, rfl⟩)
    go_ret
    exact ⟨ret_bool HZ.out.symm, rfl⟩
   ·rw [h1] at HN
    have H1 := Lib.hid h1
    obtain ⟨x1, x2⟩ := inB_iff.1 h1
    rcases Nat.eq_zero_or_pos k with rfl | hkp
    ·have hp0 : p = 0 := HP.out.1 rfl
     have HZ : Hid (R = riseB x (l.drop (0 + 1))) := by
      show _ = _
      rw [HN, hp0, decide_eq_true (by omega : (0 : Int) < x)]; rfl
     clear HN h1 hprev hp0
     have e0' : w.cell? ⟨bb, oo, none⟩ = some (.int .i64 x) := by simpa using e0
     clear e0
     go_wp2_with (go_at_call 97; refine (within_any _ _ _ _).mono ?_; rw [H1.out]; rintro e w' ⟨rfl, rfl⟩)
     go_round
     case rel => exact ⟨0 + 1, x, by omega, by go_num, HZ, ⟨fun h9 => by omega, fun _ => HX.out⟩⟩
     case measure => simp [intOf]; omega
    ·have hkp' : (0 : Int) < (k : Int) := by omega
     have hc1 := hprev hkp
     have hkm : ((k : Int) - 1) = ((k - 1 : Nat) : Int) := by omega
     have hkm0 : (0 : Int) ≤ ((k - 1 : Nat) : Int) := by omega
     have hkm1 : ((k - 1 : Nat) : Int) < (l.length : Int) := by omega
     by_cases hpx : x ≤ p
     ·have HZ : Hid (R = false) := by
       show _ = _
       rw [HN, decide_eq_false (by omega : ¬ p < x)]; rfl
      have hd : decide (x ≤ p) = true := by simpa using hpx
      clear HN h1 hprev
      go_wp2_with (go_at_call 97; refine (within_any _ _ _ _).mono ?_; rw [H1.out]; rintro e w' ⟨rfl, rfl⟩)
      go_ret
      exact ⟨ret_bool HZ.out.symm, rfl⟩
     ·have HZ : Hid (R = riseB x (l.drop (k + 1))) := by
       show _ = _
       rw [HN, decide_eq_true (by omega : p < x)]; rfl
      have hd : decide (x ≤ p) = false := by simpa using hpx
      clear HN h1 hprev
      go_wp2_with (go_at_call 97; refine (within_any _ _ _ _).mono ?_; rw [H1.out]; rintro e w' ⟨rfl, rfl⟩)
      go_round
      case rel => exact ⟨k + 1, x, by omega, by go_num, HZ, ⟨fun h9 => by omega, fun _ => HX.out⟩⟩
      case measure => simp [intOf]; omega
  ·have HZ : Hid (R = true) := by have h9 := HR.out; rw [drop_end hlt] at h9; exact h9
   have hk1 : ¬ (k : Int) < (l.length : Int) := by omega
   go_wp2_with fail
   go_ret
   exact ⟨ret_bool HZ.out.symm, rfl⟩
set_option maxHeartbeats 800000 in
theorem hasInt_any (A : Option Addr) (c : Nat) (l : List Int) (x : Int) (w : World) (h : RdI w w.heap.size A c l) :
  Calls Tryz.prog 133 #[.slice A l.length c, .int .i64 x] w fun e w' => e = .returned (.bool (decide (x ∈ l))) ∧ w = w' := by
 obtain ⟨hl, hm⟩ := h.le
 obtain ⟨R, hR⟩ : ∃ R, R = decide (x ∈ l) := ⟨_, rfl⟩
 rw [← hR]
 go_enter Tryz.func133, Tryz.ntmps133
 go_wp2_with fail
 go_loop [9] (fun i => ∃ k : Nat, k ≤ l.length ∧ i = .int .i64 k ∧ Hid (R = decide (x ∈ l.drop k))) (fun i => l.length - (intOf i).toNat)
 case atStart => exact ⟨0, Nat.zero_le _, rfl, by rw [hR]; rfl⟩
 case round =>
  clear hR
  obtain ⟨k, hk, rfl, HR⟩ := hrel
  by_cases hlt : k < l.length
  ·obtain ⟨bb, oo, y, rfl, hbb, hy, e0⟩ := h.at_ hlt
   have hk0 : (0 : Int) ≤ (k : Int) := by omega
   have hk1 : (k : Int) < (l.length : Int) := by omega
   have HN := HR.out
   rw [drop_cons hy] at HN
   clear hy
   by_cases hxy : y = x
   ·have HZ : Hid (R = true) := by show R = true; rw [hxy] at HN; simpa using HN
    have hd : (y == x) = true := by simp [hxy]
    clear HN hxy
    go_wp2_with fail
    go_ret
    exact ⟨ret_bool HZ.out.symm, rfl⟩
   ·have HZ : Hid (R = decide (x ∈ l.drop (k + 1))) := by
     show _ = _
     rw [HN]; simp [show ¬ x = y from fun h9 => hxy h9.symm]
    have hd : (y == x) = false := by simp [hxy]
    clear HN
    go_wp2_with fail
    go_round
    case rel => exact ⟨k + 1, by omega, by go_num, HZ⟩
    case measure => simp [intOf]; omega
  ·have HZ : Hid (R = false) := by show R = false; have h9 := HR.out; rw [drop_end hlt] at h9; simpa using h9
   have hk1 : ¬ (k : Int) < (l.length : Int) := by omega
   go_wp2_with fail
   go_ret
   exact ⟨ret_bool HZ.out.symm, rfl⟩
end
end Go.Proofs.YtpmmjhpmheooeaaGreatDoor
