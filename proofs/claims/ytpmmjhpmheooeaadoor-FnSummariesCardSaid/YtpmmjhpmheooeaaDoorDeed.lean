/- DeedText: both sides. -/
import Derived.Test.YtpmmjhpmheooeaaDoorDeedPure
import Derived.Test.YtpmmjhpmheooeaaDoorShelf
import Derived.Test.YtpmmjhpmheooeaaDoorKa
namespace Go.Proofs.YtpmmjhpmheooeaaDoor
set_option linter.unusedSimpArgs false
set_option linter.unusedVariables false
open Go.RowKit
set_option maxRecDepth 20000
theorem sv_sp (a : List UInt8) : Value.string (⟨a.toArray⟩ ++ ⟨#[32]⟩) = sv (a ++ [32]) := by
  refine congrArg _ (ByteArray.ext ?_)
  simp
theorem sv_mid' (a b : List UInt8) (c : UInt8) : Value.string (⟨a.toArray⟩ ++ ⟨#[c]⟩ ++ ⟨b.toArray⟩) = sv (a ++ c :: b) := by
  refine congrArg _ (ByteArray.ext ?_)
  simp
theorem sv_emp (a : List UInt8) : Value.string (⟨#[]⟩ ++ ⟨a.toArray⟩) = sv a := by
  refine congrArg _ (ByteArray.ext ?_)
  simp
theorem sv_cat (a b : List UInt8) : Value.string (⟨a.toArray⟩ ++ ⟨b.toArray⟩) = sv (a ++ b) := by
  refine congrArg _ (ByteArray.ext ?_)
  simp
set_option maxHeartbeats 3200000 in
theorem DeedText_any (A : Option Addr) (c : Nat) (l : List T3) (w : World) (h : RdT w w.heap.size A c l) (ht : Tab w) :
    Calls Tryd.prog 14 #[.slice A l.length c] w fun e w' => e = .returned (sv (deedText l)) ∧ Below w.heap.size w w' := by
  obtain ⟨hl, hm⟩ := h.le
  have hB := Below.refl w.heap.size w
  have HC := Lib.hid (RightsOk_any A c l w h)
  cases hok : rightsOk l
  · rw [hok] at HC
    have HE := Lib.hid (deedText_no hok)
    clear hok
    go_enter Tryd.func14, Tryd.ntmps14
    go_wp2_with fail
    refine HC.out.mono ?_
    rintro e w1 ⟨rfl, hb⟩
    replace hB := hB.trans (Below.mono hb hB.size)
    have hz_w1 : w.heap.size ≤ w1.heap.size := Below.size hb
    clear hb
    go_wp2_with fail
    go_ret
    exact ⟨by rw [HE.out]; rfl, hB⟩
  have hlen := rightsOk_len hok
  have HE := Lib.hid (deedText_yes hok)
  rw [hok] at HC
  clear hok
  go_enter Tryd.func14, Tryd.ntmps14
  go_wp2_with fail
  refine HC.out.mono ?_
  rintro e w1 ⟨rfl, hb⟩
  replace hB := hB.trans (Below.mono hb hB.size)
  have hz_w1 : w.heap.size ≤ w1.heap.size := Below.size hb
  clear hb
  go_wp2_with fail
  go_loopw [3, 11] (fun v i wr => ∃ (k : Nat) (A' : Option Addr) (c' : Nat), k ≤ l.length ∧ i = .int .i64 k ∧ v = .slice A' (deedL (l.take k)).length c' ∧ OwnSt wr w.heap.size A' c' (deedL (l.take k)) ∧ Below w.heap.size w wr) (fun _ i _ => l.length - (intOf i).toNat)
  case atStart => exact ⟨0, none, 0, Nat.zero_le _, rfl, rfl, ownSt_nil _ _, hB⟩
  case round =>
    obtain ⟨k, A', c', hk, rfl, rfl, ho, hB⟩ := hrel
    have hbs := hB.size
    have hdl : (deedL (l.take k)).length ≤ 12 := by rw [deedL_len, List.length_take]; omega
    by_cases hlt : k < l.length
    · obtain ⟨bb, o, x, rfl, hbb, hx, e0, e1, e2⟩ := h.at_ hlt
      have f0 : wr.cell? ⟨bb, o + k * 3, none⟩ = some (.int .i64 x.x) := (hB.cell (p := ⟨bb, _, none⟩) hbb).trans e0
      have f1 : wr.cell? ⟨bb, o + k * 3 + 1, none⟩ = some (.int .i64 x.y) := (hB.cell (p := ⟨bb, _, none⟩) hbb).trans e1
      have f2 : wr.cell? ⟨bb, o + k * 3 + 2, none⟩ = some (.int .i64 x.z) := (hB.cell (p := ⟨bb, _, none⟩) hbb).trans e2
      clear e0 e1 e2
      have hlb : bb < wr.heap.size := by omega
      have hk0 : (0 : Int) ≤ (k : Int) := by omega
      have hk1 : (k : Int) < (l.length : Int) := by omega
      have HF := Lib.hid (fun W (h : Tab W) => RightText_any x.x x.y x.z W h)
      have HX := Lib.hid hx
      obtain ⟨tx, hte⟩ : ∃ tx, tx = rightText x.x x.y x.z := ⟨_, rfl⟩
      obtain ⟨ls, hls⟩ : ∃ ls, ls = deedL (l.take k) := ⟨_, rfl⟩
      rw [← hls] at ho hdl ⊢
      rw [← hte] at HF
      have HTE := Lib.hid hte
      have HLS := Lib.hid hls
      clear hx hte hls
      go_wp2_with fail
      have hr_q : Row2 wr w.heap.size wr.heap.size 9 1 A' ls.length c' (strs ls) := Row2.born ho
      clear ho
      first | refine name_world ?_ | refine name_wp ?_
      intro W1 hW
      replace hB : Below w.heap.size w W1 := by rw [hW]; exact tacT
      have hz_W1 : wr.heap.size ≤ W1.heap.size := by rw [hW]; exact sT
      replace kb_r : Blk W1 (wr.heap.size) 51 #[.int .i64 x.x, .int .i64 x.y, .int .i64 x.z] := by rw [hW]; exact blkT
      have hLW1_r := kb_r.lt
      replace hr_q : Row2 W1 (w.heap.size) (wr.heap.size) 9 1 A' (ls.length) c' (strs ls) := by rw [hW]; exact rowT
      try clear kc_r kf_r
      clear hW
      refine (HF.out _ (ht.below hB)).mono ?_
      rintro e w2 ⟨rfl, hb⟩
      replace hB := hB.trans (Below.mono hb hB.size)
      have hz_w2 : W1.heap.size ≤ w2.heap.size := Below.size hb
      replace kb_r := kb_r.mv hb; obtain ⟨kb_r, kc_r, kf_r, hl_r, hn_r⟩ := kb_r
      replace hr_q := Row2.below hr_q hb (by omega)
      clear hb
      have hbs := hB.size
      have ho1 : OwnSt (w2.alloc (.cells #[sv tx] 9)) w.heap.size A' c' ls := World.ownsRow.alloc hr_q.1 _
      go_wp2_with (at_builtin; refine wpList_appSt rfl _ _ rfl w.heap.size A' c' ls rfl ho1 w2.heap.size tx rfl (cell_new1 _ _ _) (by omega) (by exact oT) ?_)
      intro A3 c3 w3 ho3 hg3
      have hB3 := below_grown_own (hB.alloc hbs (.cells #[sv tx] 9)) ho1 hg3 (Nat.le_refl _) (by exact oT)
      have hsn := deedL_snoc HX.out
      rw [← HTE.out, ← HLS.out] at hsn
      rw [← hsn] at ho3
      have HSN := Lib.hid hsn
      have H3 := Lib.hid (And.intro ho3 hB3)
      clear ho3 hB3 hg3 ho1 hsn hr_q kb_r kc_r kf_r hl_r hn_r
      go_wp2_with fail
      go_roundw
      case rel => exact ⟨k + 1, A3, c3, by omega, by go_num, by rw [HSN.out, List.length_append]; rfl, H3.out⟩
      case measure => simp [intOf]; omega
    · have hk1 : ¬ (k : Int) < (l.length : Int) := by omega
      obtain rfl : k = l.length := by omega
      rw [List.take_length] at ho hdl ⊢
      obtain ⟨b, o, rfl, hb0, hcl⟩ := (OwnSt.rd ho).at_ (k := 0) (by rw [deedL_len]; omega)
      have hjl := deedJ_len l
      have hcap : (deedL l).length ≤ c' := (OwnSt.rd ho).2.1
      have HJ : Hid (Calls Tryd.prog 30 #[.slice (some ⟨b, o, none⟩) (deedL l).length c', .string ⟨#[32]⟩] wr fun e w' => e = .returned (sv (Lib.join (deedL l) [32])) ∧ Below wr.heap.size wr w') := by
        have := Tryd.strings_Join b o c' ((deedL l).map fun x => (⟨x.toArray⟩ : ByteArray)) ⟨#[32]⟩ wr (fun j x hx => by
          rw [List.getElem?_map] at hx
          obtain ⟨y, hy, rfl⟩ := Option.map_eq_some_iff.1 hx
          exact hcl j y hy) hb0 (by rw [List.length_map]; omega) (by rw [List.length_map]; exact hcap) (by simp only [List.map_map, Function.comp_def, List.map_id']; omega)
        refine Lib.hid ?_
        simpa [List.map_map, Function.comp_def] using this
      clear hcl ho
      go_wp2_with fail
      refine HJ.out.mono ?_
      rintro e w2 ⟨rfl, hb⟩
      replace hB := hB.trans (Below.mono hb hB.size)
      have hz_w2 : wr.heap.size ≤ w2.heap.size := Below.size hb
      clear hb
      go_wp2_with fail
      go_ret
      exact ⟨by rw [HE.out]; rfl, hB⟩
end Go.Proofs.YtpmmjhpmheooeaaDoor
