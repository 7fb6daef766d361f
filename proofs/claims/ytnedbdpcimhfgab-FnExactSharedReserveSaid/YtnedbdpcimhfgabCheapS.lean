/- The reference's choice of the n least numbers. -/
import Derived.Test.YtnedbdpcimhfgabCheap
import Derived.Test.YtnedbdpcimhfgabRow
import Derived.Test.YtnedbdpcimhfgabApp
import Derived.Test.YtnedbdpcimhfgabBest
import Derived.Test.YtnedbdpcimhfgabWait
namespace Go.Proofs.Ytnedbdpcimhfgab
open Go.RowKit
set_option maxRecDepth 20000
theorem OwnB.row2 {w : World} {base c : Nat} {A : Option Addr} {l : List Bool} (h : OwnB w base A c l) : Row2 w base w.heap.size 4 1 A l.length c (bools l) := Row2.born h
theorem picks_snoc : ∀ (l : List Bool) (u : Bool) (k : Nat), picks (l ++ [u]) k = picks l k ++ (if u then [((k + l.length : Nat) : Int)] else [])
  | [], u, k => by cases u <;> rfl
  | x :: l, u, k => by
    rw [List.cons_append, picks_cons, picks_cons, picks_snoc l u (k + 1)]
    have e : k + 1 + l.length = k + (x :: l).length := by simp only [List.length_cons]; omega
    rw [e]
    cases x <;> simp
theorem take_snocB (l : List Bool) (k : Nat) (x : Bool) (h : l[k]? = some x) : l.take (k + 1) = l.take k ++ [x] := by
  obtain ⟨hk, rfl⟩ := List.getElem?_eq_some_iff.1 h
  rw [List.take_succ_eq_append_getElem hk]
set_option maxHeartbeats 6400000 in
theorem l21Cheapest_any (A : Option Addr) (c : Nat) (ps rs : List Int) (n : Nat) (w : World) (h : RdI w w.heap.size A c ps) (hn : n ≤ ps.length) (h48 : ps.length ≤ 48) (hps : ∀ k, k < ps.length → ps.getD k 0 = - rs.getD k 0) :
    Calls Try.prog 15 #[.slice A ps.length c, .int .i64 n] w fun e w' => ∃ A' c', e = .returned (.slice A' (picks (chosen rs ps.length n) 0).length c') ∧ OwnI w' w.heap.size A' c' (picks (chosen rs ps.length n) 0) ∧ Below w.heap.size w w' := by
  obtain ⟨hl, hm⟩ := h.le
  obtain ⟨i0, hi, hz0, hz1, hz2⟩ := info_parts infoB
  have HPS := Lib.hid hps
  clear hps
  go_enter Try.func15, Try.ntmps15
  go_wp2_with (at_make; refine wpList_make_full _ rfl _ _ 50 rfl w.heap.size 4 i0 (.bool false) 1 Try.underlying50 hi hz0 hz1 _ _ _ _ ps.length rfl rfl rfl rfl (by rw [hz2]; omega) (by unfold maxLen; omega) (Nat.le_refl _) ?_)
  intro w1 hown hg
  have hB1 : Below w.heap.size w w1 := (Below.refl _ _).grown hg (Nat.le_refl _) (by simp)
  have hr1 : Row2 w1 w.heap.size w1.heap.size 4 1 (some ⟨w.heap.size, 0, none⟩) ps.length ps.length (bools (chosen rs ps.length 0)) := by
    rw [chosen_zero]
    rw [madeB ps.length] at hown
    have ho : OwnB w1 w.heap.size (some ⟨w.heap.size, 0, none⟩) ps.length (List.replicate ps.length false) := by unfold OwnB; simpa using hown
    have := ho.row2
    rwa [List.length_replicate] at this
  have hgs : w.heap.size < w1.heap.size := own_lt hown
  have H0 := Lib.hid (And.intro hr1 hB1)
  clear hown hg hB1 hr1 hi hz0 hz1 hz2
  go_wp2_with fail
  go_loopw [6] (fun i wr => ∃ m : Nat, m ≤ n ∧ i = .int .i64 m ∧ Hid (Row2 wr w.heap.size w1.heap.size 4 1 (some ⟨w.heap.size, 0, none⟩) ps.length ps.length (bools (chosen rs ps.length m))) ∧ Hid (Below w.heap.size w wr)) (fun i _ => n - (intOf i).toNat)
  case atStart => exact ⟨0, Nat.zero_le _, rfl, H0.out.1, H0.out.2⟩
  case round =>
    obtain ⟨m, hmn, rfl, HR, HB⟩ := hrel
    clear H0
    obtain ⟨wo, rfl⟩ : ∃ wo : World, wo = wr := ⟨_, rfl⟩
    by_cases hlt : m < n
    · have hmp : m < ps.length := by omega
      have hml : (m : Int) < (n : Int) := by omega
      go_wp2_with fail
      go_loopw [7, 8] (fun bb i wr => ∃ (k : Nat), k ≤ ps.length ∧ i = .int .i64 k ∧ bb = .int .i64 (bestOf ps (chosen rs ps.length m) k) ∧ ∃ nd, wr = wo.drewN nd) (fun _ i _ => ps.length - (intOf i).toNat)
      case atStart => exact ⟨0, Nat.zero_le _, rfl, rfl, 0, rfl⟩
      case round =>
        obtain ⟨k, hk, rfl, rfl, nd, rfl⟩ := hrel
        by_cases hkl : k < ps.length
        · obtain ⟨b, o, x, rfl, hbb, hx, hcell⟩ := h.at_ hkl
          have hcx : wo.cell? ⟨b, o + k, none⟩ = some (.int .i64 x) := (HB.out.cell (p := ⟨b, _, none⟩) hbb).trans hcell
          obtain ⟨g, hg, _, _, _, _, ⟨u, hu, hue⟩, _⟩ := HR.out.setB hkl true
          obtain rfl : g = w.heap.size := by simpa using hg.symm
          have hstep := bestOf_succ ps (chosen rs ps.length m) k
          rw [getD_bool hue, getD_of hx] at hstep
          have hki : (k : Int) < (ps.length : Int) := by omega
          have k0 : (0 : Int) ≤ (k : Int) := by omega
          clear hx hcell hg hue
          cases u
          case true =>
            rw [if_neg (by simp)] at hstep
            have HS := Lib.hid hstep
            clear hstep
            go_wp2_with fail
            go_quiet (fail)
            go_wp2_with fail
            go_roundw
            case rel => exact ⟨k + 1, by omega, by go_num, (by rw [HS.out]), nd + nq, by first | rfl | simp [World.drewN_drewN]⟩
            case measure => simp [intOf]; omega
          case false =>
            rcases bestOf_spec ps (chosen rs ps.length m) k with ⟨hb1, _⟩ | ⟨bn, hb1, hb2, _, _⟩
            · rw [hb1] at hstep ⊢
              rw [if_pos ⟨rfl, .inl (by omega)⟩] at hstep
              have HS := Lib.hid hstep
              have d1 : decide ((-1 : Int) < 0) = true := rfl
              clear hstep
              go_wp2_with fail
              go_quiet (fail)
              go_wp2_with fail
              go_roundw
              case rel => exact ⟨k + 1, by omega, by go_num, (by rw [HS.out]), nd + nq, by first | rfl | simp [World.drewN_drewN]⟩
              case measure => simp [intOf]; omega
            · rw [hb1] at hstep ⊢
              obtain ⟨b', o', y, hA', hbb', hy, hcy0⟩ := h.at_ (k := bn) (by omega)
              obtain ⟨rfl, rfl⟩ : b = b' ∧ o = o' := by simpa using hA'
              have hcy : wo.cell? ⟨b, o + bn, none⟩ = some (.int .i64 y) := (HB.out.cell (p := ⟨b, _, none⟩) hbb').trans hcy0
              rw [Int.toNat_natCast, getD_of hy] at hstep
              have d1 : decide ((bn : Int) < 0) = false := by simp only [decide_eq_false_iff_not]; omega
              have d2 : ¬ (bn : Int) < 0 := by omega
              have b0 : (0 : Int) ≤ (bn : Int) := by omega
              have b1 : (bn : Int) < (ps.length : Int) := by omega
              clear hy hcy0 hA'
              by_cases hxy : x < y
              · rw [if_pos ⟨rfl, .inr hxy⟩] at hstep
                have HS := Lib.hid hstep
                clear hstep
                go_wp2_with fail
                go_quiet (fail)
                go_wp2_with fail
                go_roundw
                case rel => exact ⟨k + 1, by omega, by go_num, (by rw [HS.out]), nd + nq, by first | rfl | simp [World.drewN_drewN]⟩
                case measure => simp [intOf]; omega
              · rw [if_neg (by simp; omega)] at hstep
                have HS := Lib.hid hstep
                clear hstep
                go_wp2_with fail
                go_quiet (fail)
                go_wp2_with fail
                go_roundw
                case rel => exact ⟨k + 1, by omega, by go_num, (by rw [HS.out]), nd + nq, by first | rfl | simp [World.drewN_drewN]⟩
                case measure => simp [intOf]; omega
        · obtain rfl : k = ps.length := by omega
          obtain ⟨bn, hb1, hb2, hb3⟩ := best_next HPS.out hmp
          obtain ⟨g, hg, hg1, _, hg3, hfz, ⟨u, hu, hue⟩, hset⟩ := HR.out.setB hb2 true
          obtain rfl : g = w.heap.size := by simpa using hg.symm
          rw [chosen_next hb3] at hset
          rw [hb1]
          have HS := Lib.hid (And.intro hset (HB.out.setCell (p := ⟨w.heap.size, bn, none⟩) (Nat.le_refl _) (.bool true)))
          have b0 : (0 : Int) ≤ (bn : Int) := by omega
          have b1 : (bn : Int) < (ps.length : Int) := by omega
          clear hb1 hb3 hg hue hset
          go_wp2_with fail
          go_roundw
          case rel => exact ⟨m + 1, by omega, by go_num, HS.out.1, ⟨HS.out.2.os, HS.out.2.tape, HS.out.2.output, HS.out.2.size, HS.out.2.block⟩⟩
          case measure => simp [intOf]; omega
    · obtain rfl : m = n := by omega
      have hbs := HB.out.size
      have hws : w1.heap.size ≤ wo.heap.size ∨ wo.heap.size < w1.heap.size := by omega
      have hr2 : Row2 (wo.alloc (.cells #[] 3)) w.heap.size w1.heap.size 4 1 (some ⟨w.heap.size, 0, none⟩) ps.length ps.length (bools (chosen rs ps.length m)) := Row2.alloc HR.out _
      have hgl : w.heap.size < wo.heap.size := own_lt HR.out.1
      have ho2 : OwnI (wo.alloc (.cells #[] 3)) (w.heap.size + 1) (some ⟨wo.heap.size, 0, none⟩) 0 [] := ownEmpty wo (w.heap.size + 1) _ _ (by omega)
      have hB2 : Below w.heap.size w (wo.alloc (.cells #[] 3)) := HB.out.alloc hbs _
      have H2 := Lib.hid (And.intro hr2 (And.intro ho2 hB2))
      clear hr2 ho2 hB2
      go_wp2_with fail
      go_loopw [9, 10] (fun v i wr => ∃ (k : Nat) (A' : Option Addr) (c' : Nat) (out : List Int), k ≤ ps.length ∧ i = .int .i64 k ∧ v = .slice A' out.length c' ∧ Hid (out = picks ((chosen rs ps.length m).take k) 0) ∧ Hid (OwnI wr (w.heap.size + 1) A' c' out ∧ Row2 wr w.heap.size w1.heap.size 4 1 (some ⟨w.heap.size, 0, none⟩) ps.length ps.length (bools (chosen rs ps.length m)) ∧ Below w.heap.size w wr ∧ w.heap.size < wr.heap.size)) (fun _ i _ => ps.length - (intOf i).toNat)
      case atStart => exact ⟨0, _, _, [], Nat.zero_le _, rfl, rfl, rfl, H2.out.2.1, H2.out.1, H2.out.2.2, by first | omega | (simp; omega)⟩
      case round =>
        clear H2
        obtain ⟨k, A', c', out, hk, rfl, rfl, HE, HO⟩ := hrel
        have hol : out.length ≤ 48 := by
          rw [HE.out]
          exact Nat.le_trans (picks_len _ _) (by rw [List.length_take, chosen_len]; omega)
        have hbs2 := HO.out.2.2.1.size
        have hgl2 := HO.out.2.2.2
        by_cases hkl : k < ps.length
        · obtain ⟨g, hg, _, _, _, _, ⟨u, hu, hue⟩, _⟩ := HO.out.2.1.setB hkl true
          obtain rfl : g = w.heap.size := by simpa using hg.symm
          have hsn : picks ((chosen rs ps.length m).take (k + 1)) 0 = out ++ (if u then [(k : Int)] else []) := by
            rw [take_snocB _ _ _ hue, picks_snoc, ← HE.out, List.length_take, chosen_len]
            have : 0 + min k ps.length = k := by omega
            rw [this]
          have hki : (k : Int) < (ps.length : Int) := by omega
          have k0 : (0 : Int) ≤ (k : Int) := by omega
          clear hg hue
          cases u
          case true =>
            rw [if_pos rfl] at hsn
            have HS := Lib.hid hsn
            have ho1 : OwnI (wr.alloc (.cells #[.int .i64 k] 3)) (w.heap.size + 1) A' c' out := HO.out.1.alloc _
            clear hsn
            go_wp2_with (at_builtin; refine wpList_app1 rfl _ _ rfl (w.heap.size + 1) A' c' out rfl ho1 wr.heap.size k rfl (cell_new1 _ _ _) (by omega) (by first | omega | (simp; omega)) ?_)
            intro A2 c2 w2 ho2 hg2
            have hb2 := below_grown_own (HO.out.2.2.1.alloc hbs2 _) ho1 hg2 (by omega) (by first | omega | (simp; omega))
            have hr2 : Row2 w2 w.heap.size w1.heap.size 4 1 (some ⟨w.heap.size, 0, none⟩) ps.length ps.length (bools (chosen rs ps.length m)) := (HO.out.2.1.alloc _).same fun g hg => hg2.block g ((Row2.alloc HO.out.2.1 (.cells #[.int .i64 k] 3)).1.lt g hg).2 (fun e => by
              have h1 : g = w.heap.size := by simpa [Value.ownBlock] using hg.symm
              have h2 := (own_block_ge ho1 e.symm).1
              omega)
            have h9 : w.heap.size < w2.heap.size := by have h8 : wr.heap.size + 1 ≤ w2.heap.size := (by simpa using hg2.size); omega
            have H3 := Lib.hid (And.intro ho2 (And.intro hr2 (And.intro hb2 h9)))
            clear ho2 hb2 hg2 ho1 hr2
            go_wp2_with fail
            go_roundw
            case rel => exact ⟨k + 1, A2, c2, out ++ [(k : Int)], by omega, by go_num, by rw [List.length_append]; rfl, HS.out.symm, H3.out⟩
            case measure => simp [intOf]; omega
          case false =>
            rw [if_neg (by simp), List.append_nil] at hsn
            have HS := Lib.hid hsn
            clear hsn
            go_wp2_with fail
            go_roundw
            case rel => exact ⟨k + 1, A', c', out, by omega, by go_num, rfl, HS.out.symm, HO.out⟩
            case measure => simp [intOf]; omega
        · have hki : ¬ (k : Int) < (ps.length : Int) := by omega
          have HF : Hid (picks (chosen rs ps.length m) 0 = out) := by show _ = _; rw [HE.out, List.take_of_length_le (by rw [chosen_len]; omega)]
          go_wp2_with fail
          go_ret
          rw [HF.out]
          exact ⟨_, _, rfl, own_mono' HO.out.1 (by omega), HO.out.2.2.1⟩
end Go.Proofs.Ytnedbdpcimhfgab
