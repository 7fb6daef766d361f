/- TwoWells: two wells, each next one to the free one. -/
import Derived.Test.YtljidaniidfdoaaBestS
import Derived.Test.YtljidaniidfdoaaSrt
import Derived.Test.YtljidaniidfdoaaRow
namespace Go.Proofs.Ytljidaniidfdoaa
open Go.RowKit
set_option maxRecDepth 20000
def twoGo (t : List Int) : List Int → List Int → Int → Int → List Int × Int × Int
  | [], out, f0, f1 => (out, f0, f1)
  | i :: o, out, f0, f1 => if f1 < f0 then twoGo t o (out.set i.toNat 1) f0 (f1 + t.getD i.toNat 0) else twoGo t o (out.set i.toNat 0) (f0 + t.getD i.toNat 0) f1
theorem twoGo_cons (t : List Int) (i : Int) (o out : List Int) (f0 f1 : Int) : twoGo t (i :: o) out f0 f1 = if f1 < f0 then twoGo t o (out.set i.toNat 1) f0 (f1 + t.getD i.toNat 0) else twoGo t o (out.set i.toNat 0) (f0 + t.getD i.toNat 0) f1 := rfl
theorem twoGo_len (t : List Int) : ∀ (o out : List Int) (f0 f1 : Int), (twoGo t o out f0 f1).1.length = out.length
  | [], _, _, _ => rfl
  | i :: o, out, f0, f1 => by
    rw [twoGo_cons]
    split <;> rw [twoGo_len t o, List.length_set]
def twoWells (l : List Int) : List Int × Int := if queueOk l then ((twoGo l (bestQueue l) (List.replicate l.length 0) 0 0).1, max (twoGo l (bestQueue l) (List.replicate l.length 0) 0 0).2.1 (twoGo l (bestQueue l) (List.replicate l.length 0) 0 0).2.2) else ([], -1)
theorem twoWells_len (l : List Int) : (twoWells l).1.length ≤ l.length := by
  unfold twoWells
  split
  · show (twoGo l _ _ 0 0).1.length ≤ _
    rw [twoGo_len, List.length_replicate]; exact Nat.le_refl _
  · simp
theorem bestQueue_perm {l : List Int} (h : queueOk l = true) : (bestQueue l).Perm (upto l.length) := by
  unfold bestQueue; rw [if_pos h]; exact insAll_perm _ _ _ rfl
theorem upto_nodup (n : Nat) : (upto n).Nodup := by
  unfold upto
  refine List.Pairwise.map _ (fun a b h => ?_) (List.nodup_range (n := n))
  intro e
  exact h (Int.ofNat.inj e)
theorem bestQueue_nodup {l : List Int} (h : queueOk l = true) : (bestQueue l).Nodup := (bestQueue_perm h).nodup_iff.2 (upto_nodup _)
theorem bestQueue_mem {l : List Int} {x : Int} (h : x ∈ bestQueue l) : ∃ k : Nat, x = (k : Int) ∧ k < l.length := by
  unfold bestQueue at h
  split at h
  · exact upto_mem ((insAll_mem _ _ _).1 h)
  · cases h
theorem bestQueue_length {l : List Int} (h : queueOk l = true) : (bestQueue l).length = l.length := by rw [(bestQueue_perm h).length_eq, upto_len]
theorem zeros_at {o out : List Int} {k j : Nat} (hnd : o.Nodup) (hz : ∀ i, i ∈ o.drop k → out[i.toNat]? = some 0) (hj : o[k]? = some (j : Int)) (hpos : ∀ i ∈ o, 0 ≤ i) (x : Int) : ∀ i, i ∈ o.drop (k + 1) → (out.set j x)[i.toNat]? = some 0 := by
  intro i hi
  have h0 : i ∈ o.drop k := by rw [drop_cons hj]; exact List.mem_cons_of_mem _ hi
  have hnd' : (o.drop k).Nodup := hnd.sublist (List.drop_sublist ..)
  rw [drop_cons hj, List.nodup_cons] at hnd'
  have hne : i ≠ (j : Int) := fun e => hnd'.1 (e ▸ hi)
  have h1 := hpos i (List.mem_of_mem_drop hi)
  rw [List.getElem?_set, if_neg (by omega)]
  exact hz i h0
set_option maxHeartbeats 3200000 in
theorem TwoWells_any (A : Option Addr) (c : Nat) (l : List Int) (w : World) (h : RdI w w.heap.size A c l) :
    Calls Try.prog 13 #[.slice A l.length c] w fun e w' => ∃ A' c', e = .returned (.tuple #[.slice A' (twoWells l).1.length c', .int .i64 (twoWells l).2]) ∧ OwnI w' w.heap.size A' c' (twoWells l).1 ∧ Below w.heap.size w w' := by
  obtain ⟨hl, hm⟩ := h.le
  have hB := Below.refl w.heap.size w
  have H1 : Hid (∀ W, Below w.heap.size w W → Calls Try.prog 15 #[.slice A l.length c] W fun e w' => e = .returned (.bool (queueOk l)) ∧ W = w') := fun W hb => QueueOk_any A c l W (h.below hb)
  cases hq : queueOk l
  · have E : Hid (twoWells l = ([], -1)) := by show _ = _; unfold twoWells; rw [hq]; rfl
    have K := Lib.hid hq
    clear hq
    go_enter Try.func13, Try.ntmps13
    go_wp2_with fail
    refine (H1.out _ (by repeat' (first | (with_reducible exact Below.refl _ _) | (with_reducible assumption) | (with_reducible refine Below.alloc ?_ ?_ _) | (with_reducible refine Below.setCell ?_ ?_ _) | (with_reducible refine Below.drew ?_) | (with_reducible refine below_drewN ?_ _) | (refine Below.trans ?_ (Below.mono (by with_reducible assumption) ?_)) | omega | (simp; done) | (simp; omega)))).mono ?_
    rw [K.out]
    rintro e w1 ⟨rfl, rfl⟩
    go_wp2_with fail
    refine bodyPost_ret (v := .tuple #[.slice none 0 0, .int .i64 (-1)]) ?_ rfl ?_
    · simp [results, Try.results13, go_sem]
    rw [E.out]
    exact ⟨none, 0, rfl, own_nil _ _, by repeat' (first | (with_reducible exact Below.refl _ _) | (with_reducible assumption) | (with_reducible refine Below.alloc ?_ ?_ _) | (with_reducible refine Below.setCell ?_ ?_ _) | (with_reducible refine Below.drew ?_) | (with_reducible refine below_drewN ?_ _) | (refine Below.trans ?_ (Below.mono (by with_reducible assumption) ?_)) | omega | (simp; done) | (simp; omega))⟩
  have E : Hid (twoWells l = ((twoGo l (bestQueue l) (List.replicate l.length 0) 0 0).1, max (twoGo l (bestQueue l) (List.replicate l.length 0) 0 0).2.1 (twoGo l (bestQueue l) (List.replicate l.length 0) 0 0).2.2)) := by show _ = _; unfold twoWells; rw [hq, if_pos rfl]
  have h12 := (queueOk_iff hq).2
  have HALL := Lib.hid (queueOk_iff hq).1
  have HQ := Lib.hid (And.intro (bestQueue_nodup hq) (bestQueue_length hq))
  have HM : Hid (∀ x ∈ bestQueue l, ∃ k : Nat, x = (k : Int) ∧ k < l.length) := fun x hx => bestQueue_mem hx
  have K := Lib.hid hq
  clear hq
  obtain ⟨i0, hi, hz0, hz1, hz2⟩ := info_parts infoI
  go_enter Try.func13, Try.ntmps13
  go_wp2_with fail
  refine (H1.out _ hB).mono ?_
  rw [K.out]
  rintro e w1 ⟨rfl, rfl⟩
  go_wp2_with (at_make; refine wpList_make_full _ rfl _ _ 24 rfl w.heap.size 3 i0 (.int .i64 0) 1 Try.underlying24 hi hz0 hz1 _ _ _ _ l.length rfl rfl rfl rfl (by rw [hz2]; omega) (by unfold maxLen; omega) (Nat.le_refl _) ?_)
  intro w2 hown hg
  have hb2 : Below w.heap.size w w2 := (Below.refl _ _).grown hg (Nat.le_refl _) (by simp)
  have ho : OwnI w2 w.heap.size (some ⟨w.heap.size, 0, none⟩) l.length (List.replicate l.length 0) := by
    unfold OwnI; rw [madeI l.length] at hown; simpa using hown
  have hgs : w.heap.size < w2.heap.size := own_lt hown
  have hr_out : Row2 w2 w.heap.size w2.heap.size 3 1 (some ⟨w.heap.size, 0, none⟩) (l.length) l.length (ints (List.replicate l.length 0)) := by
    have := ho.row2
    rwa [List.length_replicate] at this
  replace hB := hB.trans (Below.mono hb2 hB.size)
  clear hown hg hb2 ho hi hz0 hz1 hz2
  go_wp2_with fail
  first | refine name_world ?_ | refine name_wp ?_
  intro W3 hW
  replace hB : Below w.heap.size w W3 := by rw [hW]; repeat' (first | (with_reducible exact Below.refl _ _) | (with_reducible assumption) | (with_reducible refine Below.alloc ?_ ?_ _) | (with_reducible refine Below.setCell ?_ ?_ _) | (with_reducible refine Below.drew ?_) | (with_reducible refine below_drewN ?_ _) | (refine Below.trans ?_ (Below.mono (by with_reducible assumption) ?_)) | omega | (simp; done) | (simp; omega))
  have hz_W3 : w2.heap.size ≤ W3.heap.size := by rw [hW]; first | (simp; done) | (simp; omega)
  replace kb_fr : Blk W3 (w2.heap.size) 81 #[.int .i64 0, .int .i64 0] := by rw [hW]; repeat' (first | (with_reducible assumption) | (with_reducible refine Blk.drew ?_) | (with_reducible refine Blk.drewN ?_ _) | (with_reducible refine Blk.new' _ _ _ _ ?_; (first | rfl | omega | (simp; done))) | (with_reducible exact Blk.new _ _ _) | (with_reducible refine Blk.alloc ?_ _) | (with_reducible apply Blk.set8) | (with_reducible apply Blk.set7of8) | (with_reducible apply Blk.setlast8) | (with_reducible apply Blk.set7) | (with_reducible apply Blk.set2) | (with_reducible apply Blk.set3) | (with_reducible refine Blk.far ?_ ?_ _) | (simp; done) | (simp; omega) | (dsimp only; omega))
  have hLW3_fr := kb_fr.lt
  replace hr_out : Row2 W3 (w.heap.size) (w2.heap.size) 3 1 (some ⟨w.heap.size, 0, none⟩) (l.length) l.length (ints (List.replicate l.length 0)) := by rw [hW]; repeat' (first | (with_reducible assumption) | (with_reducible refine Row2.far ?_ ?_ _) | (with_reducible refine Row2.alloc ?_ _) | (with_reducible refine Row2.drewN ?_ _) | (with_reducible refine Row2.drew ?_) | (left; dsimp only; omega) | (right; dsimp only; omega))
  try clear kc_fr kf_fr
  clear hW
  refine (BestQueue_any A c l W3 (h.below hB)).mono ?_
  rintro e w4 ⟨Ao, co, rfl, hoo, hb⟩
  replace hB := hB.trans (Below.mono hb hB.size)
  have hz_w4 : W3.heap.size ≤ w4.heap.size := Below.size hb
  replace kb_fr := Blk.below kb_fr hb (by first | exact kb_fr.lt | (have := kb_fr.lt; omega))
  have kc_fr := kb_fr.cells
  have kf_fr := kb_fr.frozens
  have hl_fr := kb_fr.lt
  have hn_fr := Nat.ne_of_lt kb_fr.lt
  replace hr_out := Row2.below hr_out hb (by omega)
  clear hb
  have hr_o := hoo.row2
  clear hoo kc_fr kf_fr hl_fr hn_fr H1
  obtain ⟨o, ho⟩ : ∃ o, o = bestQueue l := ⟨_, rfl⟩
  rw [← ho] at HQ HM E hr_o ⊢
  have hol := HQ.out.2
  have S0 : Hid (OwnI w4 w.heap.size (some ⟨w.heap.size, 0, none⟩) l.length (List.replicate l.length 0) ∧ Blk w4 w2.heap.size 81 #[.int .i64 0, .int .i64 0] ∧ Row2 w4 W3.heap.size w4.heap.size 3 1 Ao o.length co (ints o) ∧ Below w.heap.size w w4) := ⟨by unfold OwnI; rw [List.length_replicate]; exact hr_out.1, kb_fr, hr_o, hB⟩
  have Z0 : Hid (∀ i, i ∈ o.drop 0 → (List.replicate l.length (0 : Int))[i.toNat]? = some 0) := fun i hi => by
    obtain ⟨k, rfl, hk⟩ := HM.out i (List.mem_of_mem_drop hi)
    simp [hk]
  clear hr_out kb_fr hr_o hB ho K
  go_wp2_with fail
  go_loopw [17] (fun i wr => ∃ (k : Nat) (out : List Int) (f0 f1 : Int), k ≤ o.length ∧ i = .int .i64 k ∧ Hid (OwnI wr w.heap.size (some ⟨w.heap.size, 0, none⟩) l.length out ∧ Blk wr w2.heap.size 81 #[.int .i64 f0, .int .i64 f1] ∧ Row2 wr W3.heap.size w4.heap.size 3 1 Ao o.length co (ints o) ∧ Below w.heap.size w wr) ∧ Hid (∀ i, i ∈ o.drop k → out[i.toNat]? = some 0) ∧ Hid (out.length = l.length ∧ twoGo l (o.drop k) out f0 f1 = twoGo l o (List.replicate l.length 0) 0 0) ∧ 0 ≤ f0 ∧ f0 ≤ 100 * k ∧ 0 ≤ f1 ∧ f1 ≤ 100 * k) (fun i _ => o.length - (intOf i).toNat)
  case atStart => exact ⟨0, List.replicate l.length 0, 0, 0, Nat.zero_le _, rfl, S0, Z0, ⟨by simp, rfl⟩, by omega, by omega, by omega, by omega⟩
  case round =>
    clear S0 Z0
    obtain ⟨k, out, f0, f1, hk, rfl, HS, HZ, HE, a0, a1, b0, b1⟩ := hrel
    by_cases hlt : k < o.length
    · have hx : o[k]? = some o[k] := List.getElem?_eq_getElem hlt
      obtain ⟨j, hj, hjl⟩ := HM.out _ (List.getElem_mem hlt)
      rw [hj] at hx
      obtain ⟨b, oo, y, rfl, hbb, hy, hcell⟩ := h.at_ hjl
      have hyb := allIn_mem HALL.out hy
      have hcy : wr.cell? ⟨b, oo + j, none⟩ = some (.int .i64 y) := (HS.out.2.2.2.cell (p := ⟨b, _, none⟩) hbb).trans hcell
      have hro : RdI wr wr.heap.size Ao co o := HS.out.2.2.1.rd
      obtain ⟨b', o', x', rfl, hbb', hx', hcx⟩ := hro.at_ hlt
      rw [hx] at hx'
      obtain rfl := Option.some.inj hx'
      have hbo : W3.heap.size ≤ b' := by
        have := (HS.out.2.2.1.1.lt b' (by rfl)).1
        exact this
      have hzj := HZ.out _ (by rw [drop_cons hx]; exact List.mem_cons_self ..)
      rw [Int.toNat_natCast] at hzj
      have hjo : j < out.length := by rw [HE.out.1]; exact hjl
      have hpos : ∀ i ∈ o, 0 ≤ i := fun i hi => by obtain ⟨k, rfl, _⟩ := HM.out i hi; omega
      have hdr := HE.out.2
      rw [drop_cons hx, twoGo_cons, Int.toNat_natCast, getD_of hy] at hdr
      have kc := HS.out.2.1.cells
      have kf := HS.out.2.1.frozens
      have hkl : (k : Int) < (l.length : Int) := by omega
      have k0 : (0 : Int) ≤ (k : Int) := by omega
      have j0 : (0 : Int) ≤ (j : Int) := by omega
      have j1 : (j : Int) < (l.length : Int) := by omega
      have hn1 : b ≠ w.heap.size := by omega
      have hn2 : b' ≠ w.heap.size := by omega
      have hn3 : w2.heap.size ≠ w.heap.size := by omega
      have hn4 : w.heap.size ≠ w2.heap.size := by omega
      have hn5 : b' ≠ w2.heap.size := by omega
      have hn6 : b ≠ w2.heap.size := by omega
      by_cases hf : f1 < f0
      · rw [if_pos hf] at hdr
        obtain ⟨g, hg, _, hg2, hfz, ⟨z, hz, hze⟩, ho1, _⟩ := HS.out.1.set_ (k := j) hjo 1
        obtain rfl : g = w.heap.size := by simpa using hg.symm
        rw [hzj] at hze
        obtain rfl := Option.some.inj hze
        have HS1 : Hid (OwnI ((wr.setCell ⟨w.heap.size, j, none⟩ (.int .i64 1)).setCell ⟨w2.heap.size, 1, none⟩ (.int .i64 (f1 + y))) w.heap.size (some ⟨w.heap.size, 0, none⟩) l.length (out.set j 1) ∧ Blk ((wr.setCell ⟨w.heap.size, j, none⟩ (.int .i64 1)).setCell ⟨w2.heap.size, 1, none⟩ (.int .i64 (f1 + y))) w2.heap.size 81 #[.int .i64 f0, .int .i64 (f1 + y)] ∧ Row2 ((wr.setCell ⟨w.heap.size, j, none⟩ (.int .i64 1)).setCell ⟨w2.heap.size, 1, none⟩ (.int .i64 (f1 + y))) W3.heap.size w4.heap.size 3 1 (some ⟨b', o', none⟩) o.length co (ints o) ∧ Below w.heap.size w ((wr.setCell ⟨w.heap.size, j, none⟩ (.int .i64 1)).setCell ⟨w2.heap.size, 1, none⟩ (.int .i64 (f1 + y)))) := by
          refine ⟨?_, ((HS.out.2.1.far (p := ⟨w.heap.size, j, none⟩) hn3 _).two1 _), Row2.far (Row2.far HS.out.2.2.1 (.inl (by show w.heap.size < _; omega)) _) (.inl (by show w2.heap.size < _; omega)) _, (HS.out.2.2.2.setCell (by show w.heap.size ≤ w.heap.size; omega) _).setCell (by show w.heap.size ≤ w2.heap.size; omega) _⟩
          unfold OwnI
          exact own_set_blk ho1 (HS.out.2.1.far (p := ⟨w.heap.size, j, none⟩) hn3 _) (by decide) 1 _
        have HD := Lib.hid hdr
        have HZ1 : Hid (∀ i, i ∈ o.drop (k + 1) → (out.set j 1)[i.toNat]? = some 0) := zeros_at HQ.out.1 HZ.out hx hpos 1
        clear hdr hpos hzj ho1 hx hx' hj hy hcell hze hg hro
        go_wp2_with fail
        go_region
        go_wp2_with fail
        go_roundw
        case rel => exact ⟨k + 1, out.set j 1, f0, f1 + y, by omega, by go_num, ⟨HS1.out.1, HS1.out.2.1, HS1.out.2.2.1, HS1.out.2.2.2.drew⟩, HZ1, ⟨by rw [List.length_set]; exact HE.out.1, HD.out⟩, by omega, by omega, by omega, by omega⟩
        case measure => simp [intOf]; omega
      · rw [if_neg hf] at hdr
        have e0 : out.set j 0 = out := by
          apply List.ext_getElem?
          intro i
          rw [List.getElem?_set]
          split
          case isTrue he => rw [← he, hzj]
          case isFalse => rfl
        rw [e0] at hdr
        have hco : wr.cell? ⟨w.heap.size, j, none⟩ = some (.int .i64 0) := by
          obtain ⟨g, hg, _, _, _, ⟨z, hz, hze⟩, _⟩ := HS.out.1.set_ (k := j) hjo 1
          obtain rfl : g = w.heap.size := by simpa using hg.symm
          rw [hzj] at hze
          obtain rfl := Option.some.inj hze
          exact hz
        have HS1 : Hid (OwnI (wr.setCell ⟨w2.heap.size, 0, none⟩ (.int .i64 (f0 + y))) w.heap.size (some ⟨w.heap.size, 0, none⟩) l.length out ∧ Blk (wr.setCell ⟨w2.heap.size, 0, none⟩ (.int .i64 (f0 + y))) w2.heap.size 81 #[.int .i64 (f0 + y), .int .i64 f1] ∧ Row2 (wr.setCell ⟨w2.heap.size, 0, none⟩ (.int .i64 (f0 + y))) W3.heap.size w4.heap.size 3 1 (some ⟨b', o', none⟩) o.length co (ints o) ∧ Below w.heap.size w (wr.setCell ⟨w2.heap.size, 0, none⟩ (.int .i64 (f0 + y)))) := by
          refine ⟨?_, HS.out.2.1.two0 _, Row2.far HS.out.2.2.1 (.inl (by show w2.heap.size < _; omega)) _, HS.out.2.2.2.setCell (by show w.heap.size ≤ w2.heap.size; omega) _⟩
          unfold OwnI
          exact own_set_blk HS.out.1 HS.out.2.1 (by decide) 0 _
        have HD := Lib.hid hdr
        have HZ1 : Hid (∀ i, i ∈ o.drop (k + 1) → out[i.toNat]? = some 0) := by
          have := zeros_at HQ.out.1 HZ.out hx hpos 0
          rw [e0] at this
          exact this
        clear hdr hpos hzj hx hx' hj hy hcell hro e0
        go_wp2_with fail
        go_region
        go_wp2_with fail
        go_roundw
        case rel => exact ⟨k + 1, out, f0 + y, f1, by omega, by go_num, ⟨HS1.out.1, HS1.out.2.1, HS1.out.2.2.1, HS1.out.2.2.2.drew⟩, HZ1, ⟨HE.out.1, HD.out⟩, by omega, by omega, by omega, by omega⟩
        case measure => simp [intOf]; omega
    · have hkl : ¬ (k : Int) < (l.length : Int) := by omega
      have hd := HE.out.2
      rw [drop_end hlt] at hd
      have hde : twoGo l [] out f0 f1 = (out, f0, f1) := rfl
      rw [hde] at hd
      have E2 : Hid (twoWells l = (out, max f0 f1)) := by show _ = _; rw [E.out, ← hd]
      have HOL := Lib.hid HE.out.1
      have kc := HS.out.2.1.cells
      clear hd hde
      by_cases hf : f0 < f1
      all_goals
        go_wp2_with fail
        go_region
        go_wp2_with fail
        refine bodyPost_ret (v := .tuple #[.slice (some ⟨w.heap.size, 0, none⟩) l.length l.length, .int .i64 (max f0 f1)]) ?_ rfl ?_
        · simp [results, Try.results13, go_sem]
          try omega
        · rw [E2.out]
          exact ⟨_, _, by rw [HOL.out], HS.out.1, HS.out.2.2.2.drew⟩
end Go.Proofs.Ytljidaniidfdoaa
