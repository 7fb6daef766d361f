/- Texts of the proof, joined: FmtV, ReadRight, ReadRightS, ReadDeed. -/
import Derived.Test.YtpmmjhpmheooeaaGreatDoorQ34
import Derived.Deep.DeepCutAuto
import Derived.Deep.RegionHeld3
import Derived.Test.YtpmmjhpmheooeaaGreatDoorQ35
import Derived.Test.YtpmmjhpmheooeaaGreatDoorQ31
import Derived.Test.YtpmmjhpmheooeaaGreatDoorQ32
import Derived.Test.YtpmmjhpmheooeaaGreatDoorQ12
namespace Go.Proofs.YtpmmjhpmheooeaaGreatDoor
set_option linter.unusedSimpArgs false
set_option linter.unusedVariables false
section
open Go.RowKit
set_option maxRecDepth 20000
theorem sv_head (a b c d : List UInt8) : Value.string (⟨#[108, 101, 118, 101, 108, 32]⟩ ++ ⟨a.toArray⟩ ++ ⟨#[32, 114, 97, 105, 110, 101, 100, 32]⟩ ++ ⟨b.toArray⟩ ++ ⟨#[32, 100, 114, 117, 110, 107, 32]⟩ ++ ⟨c.toArray⟩ ++ ⟨#[32, 108, 111, 115, 116, 32]⟩ ++ ⟨d.toArray⟩) =
  sv ([108, 101, 118, 101, 108, 32] ++ a ++ [32, 114, 97, 105, 110, 101, 100, 32] ++ b ++ [32, 100, 114, 117, 110, 107, 32] ++ c ++ [32, 108, 111, 115, 116, 32] ++ d) := by
 refine congrArg _ (ByteArray.ext ?_)
 simp
theorem sv_lineV (a b : List UInt8) : Value.string (⟨a.toArray⟩ ++ ⟨#[32]⟩ ++ ⟨b.toArray⟩) = sv (a ++ [32] ++ b) := by
 refine congrArg _ (ByteArray.ext ?_)
 simp
theorem fmtV_len (v : Vg) : (fmtV v).length ≤ 14 := by
 cases h : villageOk v
 ·rw [fmtV_no h]; simp
 ·rw [fmtV_yes h, List.length_append, fvLines_len]
  have := (rights_facts (vg_both h).2).1
  simp; omega
theorem row_twoS (w : World) (base : Nat) (a b : List UInt8) (hb : base ≤ w.heap.size) : (w.alloc (.cells #[sv a, sv b] 9)).ownsRow base 9 1 (.slice (some ⟨w.heap.size, 0, none⟩) 2 2) 2 (strs [a, b]) :=
 ⟨rfl, .inr ⟨w.heap.size, 2, #[sv a, sv b], rfl, hb, heap_alloc_new w _, Nat.le_refl _, by unfold maxLen; omega, rfl, rfl⟩⟩
theorem step_appSt {w : World} {ops : Array Oper} {o : Oper} {a : _root_.Go.Act} {K : _root_.Go.Act → World → Prop} {Q : Exit → _root_.Go.Act → World → Prop} {E : Prop} (hgd : o.guard = none) (s x : Operand)
  (ho : o.op = .call { callee := .builtin .append, args := #[s, x], argTypes := #[22, 22] })
  (base : Nat) (A : Option Addr) (c : Nat) (l : List (List UInt8)) (hs : a.eval s = .slice A l.length c) (hown : OwnSt w base A c l)
  (g : Nat) (y : List UInt8) (hx : a.eval x = .slice (some ⟨g, 0, none⟩) 1 1) (hc : w.cell? ⟨g, 0, none⟩ = some (sv y)) (hg : g < w.heap.size) (hlen : l.length ≤ 1000000000) (hbase : base ≤ w.heap.size)
  (h : ∀ A' c' w', OwnSt w' base A' c' (l ++ [y]) → w.grownBy w' (Value.slice A l.length c).ownBlock → K (a.put o.dst (.slice A' (l.length + 1) c')) w') :
  if Region.wanted o (yielded ops a.tmps) = true then Oper.wp Tryz.prog o a w K Q else E := by
 refine step_appAll hgd s x 22 ho base 9 (.string ⟨#[]⟩) 1 16 Tryz.underlying22 infoSt rfl (by decide) _ l.length (strs l) hs hown w.heap.size (some ⟨g, 0, none⟩) 1 1 [sv y] hx ⟨rfl, Nat.le_refl _, by omega, fun _ => ⟨g, 0, rfl, hg, fun j u hj => ?_⟩⟩ (fun u hu => ?_) (by omega) (by omega) hbase fun A' c' w' h2 h3 => h A' c' w' ?_ h3
 ·match j, hj with
  |0, hj => simp only [List.getElem?_cons_zero, Option.some.injEq] at hj; subst hj; exact hc
 ·simp only [List.mem_singleton] at hu; subst hu; rfl
 ·unfold OwnSt
  rw [List.length_append]
  have e : strs (l ++ [y]) = strs l ++ [sv y] := by unfold strs; rw [List.map_append]; rfl
  rw [e]
  exact h2
theorem name_step {P : Program} {ops : Array Oper} {o : Oper} {a : _root_.Go.Act} {w : World} {K : _root_.Go.Act → World → Prop} {Q : Exit → _root_.Go.Act → World → Prop} {E : Prop} (h : ∀ W, W = w → if Region.wanted o (yielded ops a.tmps) = true then Oper.wp P o a W K Q else E) : if Region.wanted o (yielded ops a.tmps) = true then Oper.wp P o a w K Q else E := h w rfl
set_option maxHeartbeats 6400000 in
theorem FormatVillage_any (A : Option Addr) (c : Nat) (R : Option Addr) (d : Nat) (v : Vg) (w : World) (h : RdT w w.heap.size A c v.book.evs) (h' : RdT w w.heap.size R d v.rights) (hs : v.book.evs.length ≤ 1048576) (ht : Tab w) :
  Calls Tryz.prog 17 #[v.val A c R d] w fun e w' => ∃ A' c', e = .returned (.slice A' (fmtV v).length c') ∧ OwnSt w' w.heap.size A' c' (fmtV v) ∧ Below w.heap.size w w' := by
 have hB := Below.refl w.heap.size w
 have h1 := fun (W : World) (hb : Below w.heap.size w W) => VillageOk_any A c R d v W (h.below hb) (h'.below hb) hs
 cases hv : villageOk v
 ·rw [fmtV_no hv]
  rw [hv] at h1
  unfold Vg.val at h1 ⊢
  obtain ⟨⟨room, start, l, lv, ra, dr, lo⟩, rs⟩ := v
  simp only at h h' hs h1 ⊢
  have H1 := Lib.hid h1
  clear h1 hv
  go_enter Tryz.func17, Tryz.ntmps17
  go_wp2_with fail
  first | refine name_world ?_ | refine name_wp ?_
  intro W1 hW
  replace hB : Below w.heap.size w W1 := by rw [hW]; exact tacT
  have hz_W1 : w.heap.size ≤ W1.heap.size := by rw [hW]; exact sT
  replace kb_p : Blk W1 (w.heap.size) 35 #[.int .i64 room, .int .i64 start, .slice A l.length c, .int .i64 lv, .int .i64 ra, .int .i64 dr, .int .i64 lo, .slice R rs.length d] := by rw [hW]; exact blkT
  have hLW1_p := kb_p.lt
  try clear kc_p kf_p
  clear hW
  refine (H1.out _ hB).mono ?_
  rintro e w1 ⟨rfl, hb⟩
  replace hB := hB.trans (Below.mono hb hB.size)
  have hz_w1 : W1.heap.size ≤ w1.heap.size := Below.size hb
  replace kb_p := kb_p.mv hb; obtain ⟨kb_p, kc_p, kf_p, hl_p, hn_p⟩ := kb_p
  clear hb
  go_wp2_with fail
  go_ret
  exact ⟨none, 0, rfl, ownSt_nil _ _, hB⟩
 have hbk := book_bounds (vg_both hv).1
 have hr12 := (rights_facts (vg_both hv).2).1
 rw [hv] at h1
 have hdl := deed_len9 (l := v.rights)
 rw [fmtV_yes hv]
 have h2 := fun (W : World) (hb : Below w.heap.size w W) => DeedText_any R d v.rights W (h'.below hb) (ht.below hb)
 have h3 := fun (W : World) (o : Int) (hb : Below w.heap.size w W) => MayDrink_any A c R d v o W (h.below hb) (h'.below hb) hs
 have hmb := may_small v
 have hln := fun (k : Nat) (e : T3) (he : v.rights[k]? = some e) => fvLines_snoc (v := v) he
 have hfl := fvLines_len v
 have hxb := fun (e : T3) (he : e ∈ v.rights) => ((rights_facts (vg_both hv).2).2.2 e he).2.2
 obtain ⟨hd, hhd⟩ : ∃ hd, hd = fvHead v.book := ⟨_, rfl⟩
 obtain ⟨dt, hdt⟩ : ∃ dt, dt = deedText v.rights := ⟨_, rfl⟩
 obtain ⟨md, hmd⟩ : ∃ md, md = mayDrink v := ⟨_, rfl⟩
 have hf0 : fvLines v [] = [] := rfl
 unfold fvLine at hln
 obtain ⟨fn, hfn⟩ : ∃ fn, fn = fvLines v := ⟨_, rfl⟩
 rw [← hdt] at h2 hdl
 rw [← hmd] at h3 hmb hln
 rw [← hfn] at hln hfl hf0
 rw [← hhd, ← hdt, ← hfn]
 unfold fvHead at hhd
 clear hdt hmd hfn hv
 unfold Vg.val at h1 h3 ⊢
 obtain ⟨⟨room, start, l, lv, ra, dr, lo⟩, rs⟩ := v
 simp only at h h' hs h1 h2 h3 hbk hr12 hln hxb hhd hdl ⊢
 have H1 := Lib.hid h1
 have H2 := Lib.hid h2
 have H3 := Lib.hid h3
 have HMB := Lib.hid hmb
 have HLN := Lib.hid hln
 have HFL := Lib.hid hfl
 have HXB := Lib.hid hxb
 have HF0 := Lib.hid hf0
 have HHD := Lib.hid hhd
 have i1 := fv_itoa (n := lv) (by omega)
 have i2 := fv_itoa (n := ra) (by omega)
 have i3 := fv_itoa (n := dr) (by omega)
 have i4 := fv_itoa (n := lo) (by omega)
 have c1 : ¬ 9223372036854775807 < 6 + (Lib.itoa lv).length := by omega
 have c2 : ¬ 9223372036854775807 < 6 + (Lib.itoa lv).length + 8 := by omega
 have c3 : ¬ 9223372036854775807 < 6 + (Lib.itoa lv).length + 8 + (Lib.itoa ra).length := by omega
 have c4 : ¬ 9223372036854775807 < 6 + (Lib.itoa lv).length + 8 + (Lib.itoa ra).length + 7 := by omega
 have c5 : ¬ 9223372036854775807 < 6 + (Lib.itoa lv).length + 8 + (Lib.itoa ra).length + 7 + (Lib.itoa dr).length := by omega
 have c6 : ¬ 9223372036854775807 < 6 + (Lib.itoa lv).length + 8 + (Lib.itoa ra).length + 7 + (Lib.itoa dr).length + 6 := by omega
 have c7 : ¬ 9223372036854775807 < 6 + (Lib.itoa lv).length + 8 + (Lib.itoa ra).length + 7 + (Lib.itoa dr).length + 6 + (Lib.itoa lo).length := by omega
 clear h1 h2 h3 hmb hln hfl hf0 hhd hxb
 go_enter Tryz.func17, Tryz.ntmps17
 go_wp2_with fail
 first | refine name_world ?_ | refine name_wp ?_
 intro W1 hW
 replace hB : Below w.heap.size w W1 := by rw [hW]; exact tacT
 have hz_W1 : w.heap.size ≤ W1.heap.size := by rw [hW]; exact sT
 replace kb_p : Blk W1 (w.heap.size) 35 #[.int .i64 room, .int .i64 start, .slice A l.length c, .int .i64 lv, .int .i64 ra, .int .i64 dr, .int .i64 lo, .slice R rs.length d] := by rw [hW]; exact blkT
 have hLW1_p := kb_p.lt
 try clear kc_p kf_p
 clear hW
 refine (H1.out _ hB).mono ?_
 rintro e w1 ⟨rfl, hb⟩
 replace hB := hB.trans (Below.mono hb hB.size)
 have hz_w1 : W1.heap.size ≤ w1.heap.size := Below.size hb
 replace kb_p := kb_p.mv hb; obtain ⟨kb_p, kc_p, kf_p, hl_p, hn_p⟩ := kb_p
 clear hb
 clear H1
 go_upto_region 4 with fail
 first | refine name_world ?_ | refine name_wp ?_
 intro W2 hW
 replace hB : Below w.heap.size w W2 := by rw [hW]; exact tacT
 have hz_W2 : w1.heap.size ≤ W2.heap.size := by rw [hW]; exact sT
 replace kb_p : Blk W2 (w.heap.size) 35 #[.int .i64 room, .int .i64 start, .slice A l.length c, .int .i64 lv, .int .i64 ra, .int .i64 dr, .int .i64 lo, .slice R rs.length d] := by rw [hW]; exact blkT
 have hLW2_p := kb_p.lt
 replace kb_b : Blk W2 (w1.heap.size) 32 #[.int .i64 room, .int .i64 start, .slice A l.length c, .int .i64 lv, .int .i64 ra, .int .i64 dr, .int .i64 lo] := by rw [hW]; exact blkT
 have hLW2_b := kb_b.lt
 try clear kc_p kf_p
 try clear kc_b kf_b
 clear hW
 have kc_p := kb_p.cells
 have kc_b := kb_b.cells
 have hl_p := kb_p.lt
 have hl_b := kb_b.lt
 have hB2 := Below.refl W2.heap.size W2
 have HK : Hid (∀ X : World, Below W2.heap.size W2 X → X.cell? ⟨w1.heap.size, 3, none⟩ = some (.int .i64 lv) ∧ X.cell? ⟨w1.heap.size, 4, none⟩ = some (.int .i64 ra) ∧ X.cell? ⟨w1.heap.size, 5, none⟩ = some (.int .i64 dr) ∧ X.cell? ⟨w1.heap.size, 6, none⟩ = some (.int .i64 lo) ∧ X.cell? ⟨w.heap.size, 7, none⟩ = some (.slice R rs.length d)) := fun X hX => ⟨(Below.cell hX (p := ⟨w1.heap.size, 3, none⟩) hl_b).trans (kc_b 3), (Below.cell hX (p := ⟨w1.heap.size, 4, none⟩) hl_b).trans (kc_b 4), (Below.cell hX (p := ⟨w1.heap.size, 5, none⟩) hl_b).trans (kc_b 5), (Below.cell hX (p := ⟨w1.heap.size, 6, none⟩) hl_b).trans (kc_b 6), (Below.cell hX (p := ⟨w.heap.size, 7, none⟩) hl_p).trans (kc_p 7)⟩
 have HT2 : Hid (∀ X, Below W2.heap.size W2 X → Tab X) := fun X hX => ht.below (hB.trans (hX.mono hB.size))
 have HD2 : Hid (∀ X, Below W2.heap.size W2 X → Below w.heap.size w X) := fun X hX => hB.trans (hX.mono hB.size)
 clear kc_p kc_b hl_p hl_b
 go_region_held3 (fun X => X.cell? ⟨w1.heap.size, 3, none⟩ = some (.int .i64 lv) ∧ X.cell? ⟨w1.heap.size, 4, none⟩ = some (.int .i64 ra) ∧ X.cell? ⟨w1.heap.size, 5, none⟩ = some (.int .i64 dr) ∧ X.cell? ⟨w1.heap.size, 6, none⟩ = some (.int .i64 lo) ∧ X.cell? ⟨w.heap.size, 7, none⟩ = some (.slice R rs.length d)) (exact HK.out _ (by exact tacT))
  ((first | (go_at_call 16; refine (FormatInt_t _ _ ?_ (HT2.out _ ?_)).mono ?_; (focus omega); (focus ((repeat' (first | (with_reducible exact Below.refl _ _) | (with_reducible assumption) | (with_reducible refine Below.alloc ?_ ?_ _) | (with_reducible refine Below.setCell ?_ ?_ _) | (with_reducible refine Below.drew ?_) | (with_reducible refine below_drewN ?_ _) | (refine Below.trans ?_ (Below.mono (by with_reducible assumption) ?_)) | omega | (simp; done) | (simp; omega))); done)); rintro e w5 ⟨rfl, hb5⟩; have hC5 : Below W2.heap.size W2 w5 := (by exact tacT); have hz5 : W2.heap.size ≤ w5.heap.size := hC5.size) | (go_at_call 40; refine (H2.out _ (HD2.out _ ?_)).mono ?_; (focus ((repeat' (first | (with_reducible exact Below.refl _ _) | (with_reducible assumption) | (with_reducible refine Below.alloc ?_ ?_ _) | (with_reducible refine Below.setCell ?_ ?_ _) | (with_reducible refine Below.drew ?_) | (with_reducible refine below_drewN ?_ _) | (refine Below.trans ?_ (Below.mono (by with_reducible assumption) ?_)) | omega | (simp; done) | (simp; omega))); done)); rintro e w6 ⟨rfl, hb6⟩; have hC6 : Below W2.heap.size W2 w6 := (by exact tacT); have hz6 : W2.heap.size ≤ w6.heap.size := hC6.size)))
 replace kb_p := kb_p.below hC6 (by have := kb_p.lt; omega)
 have hB6 := HD2.out _ hC6
 have hwz : w.heap.size < w6.heap.size := kb_p.lt
 clear c1 c2 c3 c4 c5 c6 c7 H2 HK HT2 HD2 kb_b
 go_upto_region 5 with fail
 first | refine name_world ?_ | refine name_wp ?_
 intro W4 hW
 have hW2 : W4 = w6.alloc (.cells #[sv hd, sv dt] 9) := by rw [hW, sv_head, ← HHD.out]
 have S0 : Hid (OwnSt W4 w6.heap.size (some ⟨w6.heap.size, 0, none⟩) 2 [hd, dt] ∧ Blk W4 w.heap.size 35 #[.int .i64 room, .int .i64 start, .slice A l.length c, .int .i64 lv, .int .i64 ra, .int .i64 dr, .int .i64 lo, .slice R rs.length d] ∧ Below w6.heap.size w6 W4) := ⟨by rw [hW2]; exact row_twoS _ _ _ _ (Nat.le_refl _), by rw [hW]; exact blkT, by rw [hW2]; exact Below.alloc (Below.refl _ _) (Nat.le_refl _) _⟩
 clear hW hW2 kb_p hb6 hC6
 have kb_p := S0.out.2.1
 have kc_p := kb_p.cells
 have hl_p := kb_p.lt
 clear kb_p
 go_wp2_with fail
 clear kc_p hl_p
 go_loopw [4, 38] (fun v9 i wr => ∃ (k : Nat) (A' : Option Addr) (c' : Nat) (ls : List (List UInt8)), k ≤ rs.length ∧ i = .int .i64 k ∧ v9 = .slice A' ls.length c' ∧ Hid (ls = [hd, dt] ++ fn (rs.take k) ∧ ls.length = 2 + k) ∧ Hid (OwnSt wr w6.heap.size A' c' ls ∧ Blk wr w.heap.size 35 #[.int .i64 room, .int .i64 start, .slice A l.length c, .int .i64 lv, .int .i64 ra, .int .i64 dr, .int .i64 lo, .slice R rs.length d] ∧ Below w6.heap.size w6 wr)) (fun _ i _ => rs.length - (intOf i).toNat)
 case atStart => exact ⟨0, _, 2, [hd, dt], Nat.zero_le _, rfl, rfl, ⟨by rw [List.take_zero, HF0.out]; rfl, rfl⟩, S0.out⟩
 case round =>
  clear S0
  obtain ⟨k, A', c', ls, hk, rfl, rfl, HL, HO⟩ := hrel
  have hls : ls.length ≤ 14 := by have := HL.out.2; omega
  have hzr : w6.heap.size ≤ wr.heap.size := HO.out.2.2.size
  by_cases hlt : k < rs.length
  ·obtain ⟨bb, oo, x, rfl, hbb, hx, e0, e1, e2⟩ := h'.at_ hlt
   have hBr : Below w.heap.size w wr := hB6.trans (HO.out.2.2.mono hB6.size)
   have f0 : wr.cell? ⟨bb, oo + k * 3, none⟩ = some (.int .i64 x.x) := (hBr.cell (p := ⟨bb, _, none⟩) hbb).trans e0
   have f1 : wr.cell? ⟨bb, oo + k * 3 + 1, none⟩ = some (.int .i64 x.y) := (hBr.cell (p := ⟨bb, _, none⟩) hbb).trans e1
   have f2 : wr.cell? ⟨bb, oo + k * 3 + 2, none⟩ = some (.int .i64 x.z) := (hBr.cell (p := ⟨bb, _, none⟩) hbb).trans e2
   have hLX := Lib.hid (HLN.out k x hx)
   have hxb := HXB.out x (List.mem_of_getElem? hx)
   have hmb := HMB.out x.x
   obtain ⟨m9, hm9⟩ : ∃ m9, m9 = md x.x := ⟨_, rfl⟩
   have H3x : Hid (∀ W, Below w.heap.size w W → Calls Tryz.prog 41 #[.agg #[.int .i64 room, .int .i64 start, .slice A l.length c, .int .i64 lv, .int .i64 ra, .int .i64 dr, .int .i64 lo, .slice (some ⟨bb, oo, none⟩) rs.length d], .int .i64 x.x] W fun e w' => e = .returned (.int .i64 m9) ∧ Below W.heap.size W w') := fun W hb => by rw [hm9]; exact H3.out W x.x hb
   rw [← hm9] at hLX hmb
   clear e0 e1 e2 hx hm9
   obtain ⟨⟨x1, x2, x3⟩, hxx⟩ : ∃ q, q = x := ⟨_, rfl⟩
   subst hxx
   simp only at f0 f1 f2 hxb H3x hLX
   have i5 := fv_itoa (n := x1) (by omega)
   have i6 := fv_itoa (n := m9) (by omega)
   have c8 : ¬ 9223372036854775807 < (Lib.itoa x1).length + 1 := by omega
   have c9 : ¬ 9223372036854775807 < (Lib.itoa x1).length + 1 + (Lib.itoa m9).length := by omega
   have hlb : bb < wr.heap.size := by omega
   have hk0 : (0 : Int) ≤ (k : Int) := by omega
   have hk1 : (k : Int) < (rs.length : Int) := by omega
   have kb_p := HO.out.2.1
   have kc_p := kb_p.cells
   have hl_p := kb_p.lt
   go_upto_region 8 with fail
   first | refine name_world ?_ | refine name_wp ?_
   intro W5 hW
   have hz5 : wr.heap.size ≤ W5.heap.size := by rw [hW]; exact sT
   have HP : Hid (∀ X, Below W5.heap.size W5 X → Blk X w.heap.size 35 #[.int .i64 room, .int .i64 start, .slice A l.length c, .int .i64 lv, .int .i64 ra, .int .i64 dr, .int .i64 lo, .slice (some ⟨bb, oo, none⟩) rs.length d]) := fun X hX => Blk.below (by rw [hW]; exact blkT) hX (by omega)
   have HQ : Hid (∀ X, Below W5.heap.size W5 X → Row2 X w6.heap.size wr.heap.size 9 1 A' ls.length c' (strs ls)) := fun X hX => Row2.below (B := W5.heap.size) (by rw [hW]; have hr_1 : Row2 wr w6.heap.size wr.heap.size 9 1 A' ls.length c' (strs ls) := Row2.born HO.out.1; repeat' (first | (with_reducible assumption) | (with_reducible refine Row2.far ?_ ?_ _) | (with_reducible refine Row2.alloc ?_ _) | (with_reducible refine Row2.drewN ?_ _) | (with_reducible refine Row2.drew ?_) | (left; dsimp only; omega) | (right; dsimp only; omega))) hX hz5
   have hB5 : Below w6.heap.size w6 W5 := by have hB0 := HO.out.2.2; have hB1 := Below.refl w6.heap.size w6; rw [hW]; exact tacT
   have kb_r : Blk W5 wr.heap.size 69 #[.int .i64 x1, .int .i64 x2, .int .i64 x3] := by rw [hW]; exact blkT
   have hl_r := kb_r.lt
   clear hW kb_p kc_p hl_p
   have HT5 : Hid (∀ X, Below W5.heap.size W5 X → Tab X) := fun X hX => ht.below (hB6.trans ((hB5.trans (hX.mono hB5.size)).mono hB6.size))
   have HD5 : Hid (∀ X, Below W5.heap.size W5 X → Below w.heap.size w X) := fun X hX => hB6.trans ((hB5.trans (hX.mono hB5.size)).mono hB6.size)
   have HK : Hid (∀ X : World, Below W5.heap.size W5 X → X.cell? ⟨wr.heap.size, 0, none⟩ = some (.int .i64 x1) ∧ X.cell? ⟨w.heap.size, 0, none⟩ = some (.int .i64 room) ∧ X.cell? ⟨w.heap.size, 1, none⟩ = some (.int .i64 start) ∧ X.cell? ⟨w.heap.size, 2, none⟩ = some (.slice A l.length c) ∧ X.cell? ⟨w.heap.size, 3, none⟩ = some (.int .i64 lv) ∧ X.cell? ⟨w.heap.size, 4, none⟩ = some (.int .i64 ra) ∧ X.cell? ⟨w.heap.size, 5, none⟩ = some (.int .i64 dr) ∧ X.cell? ⟨w.heap.size, 6, none⟩ = some (.int .i64 lo) ∧ X.cell? ⟨w.heap.size, 7, none⟩ = some (.slice (some ⟨bb, oo, none⟩) rs.length d)) := fun X hX => ⟨(Below.cell hX (p := ⟨wr.heap.size, 0, none⟩) hl_r).trans (kb_r.cell 0), (Below.cell hX (p := ⟨w.heap.size, 0, none⟩) (by show w.heap.size < W5.heap.size; omega)).trans ((HP.out W5 (Below.refl _ _)).cell 0), (Below.cell hX (p := ⟨w.heap.size, 1, none⟩) (by show w.heap.size < W5.heap.size; omega)).trans ((HP.out W5 (Below.refl _ _)).cell 1), (Below.cell hX (p := ⟨w.heap.size, 2, none⟩) (by show w.heap.size < W5.heap.size; omega)).trans ((HP.out W5 (Below.refl _ _)).cell 2), (Below.cell hX (p := ⟨w.heap.size, 3, none⟩) (by show w.heap.size < W5.heap.size; omega)).trans ((HP.out W5 (Below.refl _ _)).cell 3), (Below.cell hX (p := ⟨w.heap.size, 4, none⟩) (by show w.heap.size < W5.heap.size; omega)).trans ((HP.out W5 (Below.refl _ _)).cell 4), (Below.cell hX (p := ⟨w.heap.size, 5, none⟩) (by show w.heap.size < W5.heap.size; omega)).trans ((HP.out W5 (Below.refl _ _)).cell 5), (Below.cell hX (p := ⟨w.heap.size, 6, none⟩) (by show w.heap.size < W5.heap.size; omega)).trans ((HP.out W5 (Below.refl _ _)).cell 6), (Below.cell hX (p := ⟨w.heap.size, 7, none⟩) (by show w.heap.size < W5.heap.size; omega)).trans ((HP.out W5 (Below.refl _ _)).cell 7)⟩
   have hB9 := Below.refl W5.heap.size W5
   go_region_held3 (fun X => X.cell? ⟨wr.heap.size, 0, none⟩ = some (.int .i64 x1) ∧ X.cell? ⟨w.heap.size, 0, none⟩ = some (.int .i64 room) ∧ X.cell? ⟨w.heap.size, 1, none⟩ = some (.int .i64 start) ∧ X.cell? ⟨w.heap.size, 2, none⟩ = some (.slice A l.length c) ∧ X.cell? ⟨w.heap.size, 3, none⟩ = some (.int .i64 lv) ∧ X.cell? ⟨w.heap.size, 4, none⟩ = some (.int .i64 ra) ∧ X.cell? ⟨w.heap.size, 5, none⟩ = some (.int .i64 dr) ∧ X.cell? ⟨w.heap.size, 6, none⟩ = some (.int .i64 lo) ∧ X.cell? ⟨w.heap.size, 7, none⟩ = some (.slice (some ⟨bb, oo, none⟩) rs.length d)) (first | exact hSA | (refine HK.out _ ?_; (repeat' (first | (with_reducible exact Below.refl _ _) | (with_reducible assumption) | (with_reducible refine Below.alloc ?_ ?_ _) | (with_reducible refine Below.setCell ?_ ?_ _) | (with_reducible refine Below.drew ?_) | (with_reducible refine below_drewN ?_ _) | (refine Below.trans ?_ (Below.mono (by with_reducible assumption) ?_)) | omega | (simp; done) | (simp; omega))); done))
    ((first | (go_at_call 16; refine (FormatInt_t _ _ ?_ (HT5.out _ ?_)).mono ?_; (focus omega); (focus ((repeat' (first | (with_reducible exact Below.refl _ _) | (with_reducible assumption) | (with_reducible refine Below.alloc ?_ ?_ _) | (with_reducible refine Below.setCell ?_ ?_ _) | (with_reducible refine Below.drew ?_) | (with_reducible refine below_drewN ?_ _) | (refine Below.trans ?_ (Below.mono (by with_reducible assumption) ?_)) | omega | (simp; done) | (simp; omega))); done)); rintro e w7 ⟨rfl, hb7⟩; have hC7 : Below W5.heap.size W5 w7 := (by exact tacT); have hz7 : W5.heap.size ≤ w7.heap.size := hC7.size) | (go_at_call 41; refine (H3x.out _ (HD5.out _ ?_)).mono ?_; (focus ((repeat' (first | (with_reducible exact Below.refl _ _) | (with_reducible assumption) | (with_reducible refine Below.alloc ?_ ?_ _) | (with_reducible refine Below.setCell ?_ ?_ _) | (with_reducible refine Below.drew ?_) | (with_reducible refine below_drewN ?_ _) | (refine Below.trans ?_ (Below.mono (by with_reducible assumption) ?_)) | omega | (simp; done) | (simp; omega))); done)); rintro e w8 ⟨rfl, hb8⟩; have hC8 : Below W5.heap.size W5 w8 := (by exact tacT); have hz8 : W5.heap.size ≤ w8.heap.size := hC8.size) | (refine name_step ?_; intro X9 hX9; have hBX : Below W5.heap.size W5 X9 := (by rw [hX9]; repeat' (first | (with_reducible exact Below.refl _ _) | (with_reducible assumption) | (with_reducible refine Below.alloc ?_ ?_ _) | (with_reducible refine Below.setCell ?_ ?_ _) | (with_reducible refine Below.drew ?_) | (with_reducible refine below_drewN ?_ _) | (refine Below.trans ?_ (Below.mono (by with_reducible assumption) ?_)) | omega | (simp; done) | (simp; omega))); have hzX : W5.heap.size ≤ X9.heap.size := hBX.size; refine step_appSt rfl _ _ rfl w6.heap.size A' c' ls rfl (HQ.out X9 hBX).1 _ (Lib.itoa x1 ++ [32] ++ Lib.itoa m9) rfl ?_ ?_ ?_ ?_ ?_; (focus (rw [hX9, ← sv_lineV]; exact cell_new1 _ _ _)); (focus (rw [hX9]; simp)); (focus omega); (focus omega); intro A3 c3 wz ho3 hg3; have hC3 : Chg w6.heap.size wr.heap.size X9 wz := (HQ.out X9 hBX).wrote hg3; obtain ⟨q0, q1, q2, q3, q4, q5, q6, q7, q8⟩ := HK.out X9 hBX; have hSA : wz.cell? ⟨wr.heap.size, 0, none⟩ = some (.int .i64 x1) ∧ wz.cell? ⟨w.heap.size, 0, none⟩ = some (.int .i64 room) ∧ wz.cell? ⟨w.heap.size, 1, none⟩ = some (.int .i64 start) ∧ wz.cell? ⟨w.heap.size, 2, none⟩ = some (.slice A l.length c) ∧ wz.cell? ⟨w.heap.size, 3, none⟩ = some (.int .i64 lv) ∧ wz.cell? ⟨w.heap.size, 4, none⟩ = some (.int .i64 ra) ∧ wz.cell? ⟨w.heap.size, 5, none⟩ = some (.int .i64 dr) ∧ wz.cell? ⟨w.heap.size, 6, none⟩ = some (.int .i64 lo) ∧ wz.cell? ⟨w.heap.size, 7, none⟩ = some (.slice (some ⟨bb, oo, none⟩) rs.length d) := ⟨(hC3.cell (p := ⟨wr.heap.size, 0, none⟩) (by show wr.heap.size < X9.heap.size; omega) (.inr (Nat.le_refl _))).trans q0, (hC3.cell (p := ⟨w.heap.size, 0, none⟩) (by show w.heap.size < X9.heap.size; omega) (.inl hwz)).trans q1, (hC3.cell (p := ⟨w.heap.size, 1, none⟩) (by show w.heap.size < X9.heap.size; omega) (.inl hwz)).trans q2, (hC3.cell (p := ⟨w.heap.size, 2, none⟩) (by show w.heap.size < X9.heap.size; omega) (.inl hwz)).trans q3, (hC3.cell (p := ⟨w.heap.size, 3, none⟩) (by show w.heap.size < X9.heap.size; omega) (.inl hwz)).trans q4, (hC3.cell (p := ⟨w.heap.size, 4, none⟩) (by show w.heap.size < X9.heap.size; omega) (.inl hwz)).trans q5, (hC3.cell (p := ⟨w.heap.size, 5, none⟩) (by show w.heap.size < X9.heap.size; omega) (.inl hwz)).trans q6, (hC3.cell (p := ⟨w.heap.size, 6, none⟩) (by show w.heap.size < X9.heap.size; omega) (.inl hwz)).trans q7, (hC3.cell (p := ⟨w.heap.size, 7, none⟩) (by show w.heap.size < X9.heap.size; omega) (.inl hwz)).trans q8⟩)))
   have H9 : Hid (OwnSt wz w6.heap.size A3 c3 (ls ++ [Lib.itoa x1 ++ [32] ++ Lib.itoa m9]) ∧ Blk wz w.heap.size 35 #[.int .i64 room, .int .i64 start, .slice A l.length c, .int .i64 lv, .int .i64 ra, .int .i64 dr, .int .i64 lo, .slice (some ⟨bb, oo, none⟩) rs.length d] ∧ Below w6.heap.size w6 wz) := ⟨ho3, (hC3.block _ (by omega) (.inl hwz)).trans (HP.out X9 hBX), Chg.below (hB5.trans (hBX.mono hB5.size)) hC3 (Nat.le_refl _) (by omega)⟩
   have HL9 : Hid (ls ++ [Lib.itoa x1 ++ [32] ++ Lib.itoa m9] = [hd, dt] ++ fn (rs.take (k + 1)) ∧ (ls ++ [Lib.itoa x1 ++ [32] ++ Lib.itoa m9]).length = 2 + (k + 1)) := ⟨by rw [hLX.out, HL.out.1, List.append_assoc], by rw [List.length_append, HL.out.2]; rfl⟩
   clear ho3 hg3 hC3 hSA HK HT5 HD5 HP HQ hB5 HO HL hBX hX9 q0 q1 q2 q3 q4 q5 q6 q7 q8
   go_wp2_with fail
   go_roundw
   case rel => exact ⟨k + 1, A3, c3, _, by omega, by go_num, by rw [List.length_append]; rfl, HL9.out, H9.out⟩
   case measure => simp [intOf]; omega
  ·obtain rfl : k = rs.length := by omega
   have hk1 : ¬ (rs.length : Int) < (rs.length : Int) := by omega
   have kb_p := HO.out.2.1
   have kc_p := kb_p.cells
   have hl_p := kb_p.lt
   have hlr : ls = [hd, dt] ++ fn rs := by have := HL.out.1; rwa [List.take_length] at this
   have HLR := Lib.hid hlr
   have HOW := Lib.hid HO.out.1
   have HBE : Hid (Below w.heap.size w wr) := hB6.trans (HO.out.2.2.mono hB6.size)
   clear hlr HO HL kb_p
   go_wp2_with fail
   go_ret
   refine ⟨A', c', ?_, ?_, HBE.out⟩
   ·show _ = Ending.returned (.slice A' (hd :: dt :: fn rs).length c')
    rw [show hd :: dt :: fn rs = ls from HLR.out.symm]
    rfl
   ·show OwnSt wr w.heap.size A' c' (hd :: dt :: fn rs)
    rw [show hd :: dt :: fn rs = ls from HLR.out.symm]
    exact (Row2.mono (Row2.born HOW.out) (lo' := w.heap.size) (by omega) (Nat.le_refl _)).1
end
section
open Go.RowKit
set_option maxRecDepth 20000
/-- internal/bytealg.MaxLen holds some int. -/
def MaxLen (w : World) : Prop := ∃ m : Int, w.cell? ⟨0, 0, none⟩ = some (.int .i64 m)
theorem MaxLen.below {w w' : World} (h : MaxLen w) (hb : Below w.heap.size w w') : MaxLen w' := by
 obtain ⟨m, hm⟩ := h
 exact ⟨m, (hb.cell (World.block_lt_of_cell? w _ hm)).trans hm⟩
end
section
open Go.RowKit
set_option maxRecDepth 20000
theorem spl_len (c : UInt8) : ∀ (s cur : List UInt8), ∀ x ∈ spl c cur s, x.length ≤ cur.length + s.length
 | [], cur, x, h => by rw [spl_nil, List.mem_singleton] at h; rw [h]; simp
 |b :: s, cur, x, h => by
  rw [spl] at h
  split at h
  ·rcases List.mem_cons.1 h with rfl | h
   ·simp
   ·have := spl_len c s [] x h
    simp at this ⊢
    omega
  ·have := spl_len c s _ x h
   rw [List.length_append, List.length_singleton] at this
   rw [List.length_cons]
   omega
end
section
open Go.RowKit
set_option maxRecDepth 20000
theorem Split_any (s : List UInt8) (c : UInt8) (w : World) (hs : s.length ≤ 1048576) (hm : MaxLen w) :
  Calls Tryz.prog 27 #[sv s, sv [c]] w fun e w' => ∃ A' c', e = .returned (.slice A' (spl c [] s).length c') ∧ OwnSt w' w.heap.size A' c' (spl c [] s) ∧ Below w.heap.size w w' := by
 obtain ⟨m, hm⟩ := hm
 have e1 := split_one c s
 refine (Tryz.strings_Split ⟨s.toArray⟩ ⟨#[c]⟩ m w (by simp [ByteArray.size]; omega) hm (by simp [ByteArray.size])).mono ?_
 rintro e w' ⟨rfl, rfl⟩
 have hl := Lib.splitB_all ⟨#[c]⟩ (by simp [ByteArray.size]) 0 _ ⟨s.toArray⟩ rfl
 have hc := Lib.countB_le ⟨#[c]⟩ (by simp [ByteArray.size]) _ ⟨s.toArray⟩ (Nat.le_refl _)
 have hz : (⟨s.toArray⟩ : ByteArray).size = s.length := by simp [ByteArray.size]
 have hn : Lib.countB ⟨s.toArray⟩ ⟨#[c]⟩ + 1 = (spl c [] s).length := by rw [← e1, List.length_map]; exact hl.symm
 have e2 : (Lib.splitB ⟨#[c]⟩ 0 (Lib.countB ⟨s.toArray⟩ ⟨#[c]⟩) ⟨s.toArray⟩).map Value.string = strs (spl c [] s) := by
  rw [← e1]
  unfold strs
  rw [List.map_map]
  refine List.map_congr_left fun x _ => ?_
  simp
 rw [e2, hn]
 refine ⟨_, _, rfl, ?_, Below.alloc (Below.refl _ _) (Nat.le_refl _) _⟩
 refine ⟨by simp [strs], .inr ⟨w.heap.size, (spl c [] s).length, (strs (spl c [] s)).toArray, rfl, Nat.le_refl _, heap_alloc_new w _, Nat.le_refl _, by unfold maxLen; omega, by simp [strs], by simp only [List.toList_toArray, Nat.mul_one]; exact List.take_of_length_le (by simp [strs])⟩⟩
end
end Go.Proofs.YtpmmjhpmheooeaaGreatDoor
