/- The reference's split of a text at a byte. -/
import Derived.Test.YtbkgofjajhplpaaDoorRRPure
import Derived.Test.YtbkgofjajhplpaaDoorStrs
import Derived.Test.YtbkgofjajhplpaaDoorApp
namespace Go.Proofs.YtbkgofjajhplpaaDoor
set_option linter.unusedSimpArgs false
set_option linter.unusedVariables false
open Go.RowKit
set_option maxRecDepth 20000
theorem ext_b (t : List UInt8) (b k : Nat) : (⟨t.toArray⟩ : ByteArray).extract b k = ⟨((t.take k).drop b).toArray⟩ := by
  apply ByteArray.ext
  rw [ByteArray.data_extract]
  simp [List.drop_take]
set_option maxHeartbeats 3200000 in
theorem l35Split_any (t : List UInt8) (c : UInt8) (cn : Int) (hc : cn = (c.toNat : Int)) (w : World) (hs : t.length ≤ 1048576) :
    Calls Tryd.prog 38 #[sv t, .int .u8 cn] w fun e w' => ∃ A' c', e = .returned (.slice A' (spl c [] t).length c') ∧ OwnSt w' w.heap.size A' c' (spl c [] t) ∧ Below w.heap.size w w' := by
  have hB := Below.refl w.heap.size w
  have HCN := Lib.hid hc
  clear hc
  go_enter Tryd.func38, Tryd.ntmps38
  go_wp2_with fail
  go_loopw [5, 6, 7] (fun v bv i wr => ∃ (k b : Nat) (A' : Option Addr) (c' : Nat) (out : List (List UInt8)), k ≤ t.length + 1 ∧ b ≤ k ∧ out.length ≤ k ∧ i = .int .i64 k ∧ bv = .int .i64 b ∧ v = .slice A' out.length c' ∧ OwnSt wr w.heap.size A' c' out ∧ Hid ((k ≤ t.length → out ++ spl c ((t.take k).drop b) (t.drop k) = spl c [] t) ∧ (t.length < k → out = spl c [] t)) ∧ Below w.heap.size w wr) (fun _ _ i _ => t.length + 1 - (intOf i).toNat)
  case atStart => exact ⟨0, 0, some ⟨w.heap.size, 0, none⟩, 0, [], by omega, by omega, by simp, rfl, rfl, rfl, ownEmpty w w.heap.size 9 1 (Nat.le_refl _), ⟨fun _ => by simp, fun h => by omega⟩, by repeat' (first | (with_reducible exact Below.refl _ _) | (with_reducible assumption) | (with_reducible refine Below.alloc ?_ ?_ _) | (with_reducible refine Below.setCell ?_ ?_ _) | (with_reducible refine Below.drew ?_) | (with_reducible refine below_drewN ?_ _) | (refine Below.trans ?_ (Below.mono (by with_reducible assumption) ?_)) | omega | (simp; done) | (simp; omega))⟩
  case round =>
    obtain ⟨k, b, A', c', out, hk, hbk, hol, rfl, rfl, rfl, ho, HI, hB⟩ := hrel
    have hbs := hB.size
    have hb0 : (0 : Int) ≤ (b : Int) := by omega
    have hk0 : (0 : Int) ≤ (k : Int) := by omega
    have hbk' : (b : Int) ≤ (k : Int) := by omega
    by_cases hlt : k ≤ t.length
    · have hi1 := HI.out.1 hlt
      have hk1 : (k : Int) ≤ (t.length : Int) := by omega
      by_cases heq : k = t.length
      · subst heq
        have e1 : ((t.length : Int) == (t.length : Int)) = true := by simp
        clear HI
        obtain ⟨pc, hpc⟩ : ∃ pc, pc = (t.take t.length).drop b := ⟨_, rfl⟩
        have e5 : (⟨t.toArray⟩ : ByteArray).extract b t.length = ⟨pc.toArray⟩ := by rw [hpc]; exact ext_b t b t.length
        have HN : Hid (out ++ [pc] = spl c [] t) := by
          show _ = _
          rw [← hi1, hpc, show t.drop t.length = [] from List.drop_eq_nil_of_le (Nat.le_refl _), spl_nil]
        clear hpc hi1
        have ho1 : OwnSt (wr.alloc (.cells #[sv pc] 9)) w.heap.size A' c' out := World.ownsRow.alloc ho _
        clear ho
        go_wp2_with (at_builtin; refine wpList_appSt rfl _ _ rfl w.heap.size A' c' out rfl ho1 wr.heap.size pc rfl (cell_new1 _ _ _) (by omega) (by first | omega | (simp; omega)) ?_)
        intro A3 c3 w3 ho3 hg3
        have hB3 := below_grown_own (hB.alloc hbs (.cells #[sv pc] 9)) ho1 hg3 (Nat.le_refl _) (by first | omega | (simp; omega))
        have H3 := Lib.hid (And.intro ho3 hB3)
        clear ho3 hB3 hg3 ho1
        go_wp2_with fail
        go_roundw
        case rel => exact ⟨t.length + 1, t.length + 1, A3, c3, out ++ [pc], by omega, by omega, by rw [List.length_append, List.length_singleton]; omega, by go_num, by go_num, by rw [List.length_append]; rfl, H3.out.1, ⟨fun h => by omega, fun _ => HN.out⟩, H3.out.2⟩
        case measure => (simp [intOf]) <;> omega
      · have hlt2 : k < t.length := by omega
        obtain ⟨x, hxe⟩ : ∃ x, x = t[k] := ⟨_, rfl⟩
        have hx : t[k]? = some x := by rw [hxe]; exact List.getElem?_eq_getElem hlt2
        have hbx : ∀ h, (⟨t.toArray⟩ : ByteArray)[k]'h = x := fun _ => by rw [hxe]; rfl
        have HX := Lib.hid hx
        have e1 : ((k : Int) == (t.length : Int)) = false := beq_eq_false_iff_ne.2 (by omega)
        have e2 : ¬ (k : Int) = (t.length : Int) := by omega
        have hk2 : (k : Int) < (t.length : Int) := by omega
        have HI1 := Lib.hid hi1
        clear hx hxe hi1 HI
        by_cases hxc : x = c
        · have e3 : ((x.toNat : Int) == cn) = true := by rw [HCN.out, hxc]; simp
          have e4 : (x.toNat : Int) = cn := by rw [HCN.out, hxc]
          have HXC := Lib.hid hxc
          clear hxc
          obtain ⟨pc, hpc⟩ : ∃ pc, pc = (t.take k).drop b := ⟨_, rfl⟩
          have e5 : (⟨t.toArray⟩ : ByteArray).extract b k = ⟨pc.toArray⟩ := by rw [hpc]; exact ext_b t b k
          have HN : Hid ((out ++ [pc]) ++ spl c [] (t.drop (k + 1)) = spl c [] t) := by
            show _ = _
            rw [← HI1.out, drop_cons HX.out, HXC.out, spl_hit, hpc]; simp
          clear hpc
          have ho1 : OwnSt (wr.alloc (.cells #[sv pc] 9)) w.heap.size A' c' out := World.ownsRow.alloc ho _
          clear ho
          go_wp2_with (at_builtin; refine wpList_appSt rfl _ _ rfl w.heap.size A' c' out rfl ho1 wr.heap.size pc rfl (cell_new1 _ _ _) (by omega) (by first | omega | (simp; omega)) ?_)
          intro A3 c3 w3 ho3 hg3
          have hB3 := below_grown_own (hB.alloc hbs (.cells #[sv pc] 9)) ho1 hg3 (Nat.le_refl _) (by first | omega | (simp; omega))
          have H3 := Lib.hid (And.intro ho3 hB3)
          clear ho3 hB3 hg3 ho1
          go_wp2_with fail
          go_roundw
          case rel => exact ⟨k + 1, k + 1, A3, c3, out ++ [pc], by omega, by omega, by rw [List.length_append, List.length_singleton]; omega, by go_num, by go_num, by rw [List.length_append]; rfl, H3.out.1, ⟨fun _ => by rw [← HN.out]; congr 2; rw [List.drop_take_self], fun h => by omega⟩, H3.out.2⟩
          case measure => simp [intOf]; omega
        · have e4 : ¬ (x.toNat : Int) = cn := by rw [HCN.out]; intro e; exact hxc (UInt8.toNat_inj.1 (by omega))
          have e3 : ((x.toNat : Int) == cn) = false := by simpa using e4
          have HXC := Lib.hid hxc
          clear hxc
          have HN : Hid (out ++ spl c ((t.take (k + 1)).drop b) (t.drop (k + 1)) = spl c [] t) := by
            show _ = _
            rw [← HI1.out, drop_cons HX.out, spl_miss HXC.out]
            have e9 : t.take (k + 1) = t.take k ++ [x] := by rw [List.take_add_one, HX.out]; rfl
            rw [e9, List.drop_append_of_le_length (by rw [List.length_take]; omega)]
          go_wp2_with fail
          go_roundw
          case rel => exact ⟨k + 1, b, A', c', out, by omega, by omega, by omega, by go_num, rfl, rfl, ho, ⟨fun _ => HN.out, fun h => by omega⟩, hB⟩
          case measure => simp [intOf]; omega
    · have hk1 : ¬ (k : Int) ≤ (t.length : Int) := by omega
      have he := HI.out.2 (by omega)
      subst he
      go_wp2_with fail
      go_ret
      exact ⟨A', c', rfl, ho, hB⟩
end Go.Proofs.YtbkgofjajhplpaaDoor
