/- The law FnScripts answers true for every code. No conditions. -/
import Derived.Test.YtpmmjhpmheooeaaGreatDoorQ20
import Derived.Test.YtpmmjhpmheooeaaGreatDoorQ38
import Derived.Test.YtpmmjhpmheooeaaGreatDoorQ30
import Derived.Test.YtpmmjhpmheooeaaGreatDoorTie
import Derived.Test.YtpmmjhpmheooeaaGreatDoorCards
import Derived.SevenTiedAt
import Derived.LaidMore
import Derived.Lay
import Derived.OpenShut
import Derived.Stop.Joined
import Derived.Stop.LaidErr
import Derived.ProofKit
import Derived.LaidLaws
import Derived.Lib.LaidTab
import Derived.Deep.DeepCutAuto
import Derived.BigRegion
import Derived.Test.YtpmmjhpmheooeaaGreatDoorQ27
import Derived.Test.YtpmmjhpmheooeaaGreatDoorQ34
namespace Go.Proofs.YtpmmjhpmheooeaaGreatDoor
set_option linter.unusedSimpArgs false
set_option linter.unusedVariables false
section
open Go.ChangeShapes Go.WideShapes Go.ChangeAt Go.RowKit
set_option maxRecDepth 20000
set_option maxHeartbeats 6400000 in
theorem walk_FnScripts (w0 : World) (ht : Tab w0) (hm : MaxLen w0) (A0 : Option Addr) (c0 : Nat) (l0 : List Int) (h0 : RdY w0 w0.heap.size A0 c0 l0) :
  Calls Tryz.prog 4 #[.slice A0 l0.length c0] w0 fun e wi' => e = .returned (.bool true) ∧ Below w0.heap.size w0 wi' := by
 obtain ⟨hl0, hm0⟩ := h0.le
 by_cases hbig : (1048576 : Int) < l0.length
 ·go_enter Tryz.func4, Tryz.ntmps4
  go_wp2_with fail
  refine (big_any A0 l0.length c0 w0 (by omega)).mono ?_
  rintro e w1 ⟨rfl, rfl⟩
  go_wp2_with fail
  go_ret
  exact ⟨rfl, Below.refl _ _⟩
 have hs : l0.length ≤ 1048576 := by omega
 have hbd : decide ((1048576 : Int) < l0.length) = false := by simpa using hbig
 go_enter Tryz.func4, Tryz.ntmps4
 go_wp2_with fail
 refine (big_any A0 l0.length c0 w0 (by omega)).mono ?_
 rintro e w1 ⟨rfl, rfl⟩
 rw [hbd]
 go_wp2_with fail
 refine (DrawActs_any A0 c0 l0 w0 h0 hs).mono ?_
 rintro e w ⟨A, c, R, d, v, B, n, acts, rfl, ⟨hv, hok, hal⟩, hr1, hr2, hr3, hB00⟩
 have HB0 := Lib.hid hB00
 have HT : Hid (Tab w) := ht.below hB00
 have HM : Hid (MaxLen w) := hm.below hB00
 have hsc := sc_ok hok (by omega)
 have hrc := rs_script hok (by omega)
 have hst := scText_len acts
 have HST : Hid (∀ W, Below w.heap.size w W → Calls Tryz.prog 13 #[.slice B acts.length n] W fun e w' => e = .returned (.tuple #[sv (scText acts), .bool true]) ∧ Below W.heap.size W w') := fun W hb => by
  have h9 := ScriptText_any B n acts W (hr3.below hb) (HT.out.below hb)
  rw [hsc.1, hsc.2] at h9
  exact h9
 have HRS : Hid (∀ W, Below w.heap.size w W → Calls Tryz.prog 7 #[sv (scText acts)] W fun e w' => ∃ A' c', e = .returned (.tuple #[.slice A' (outOf acts).length c', .bool true]) ∧ OwnSt w' W.heap.size A' c' (outOf acts) ∧ Below W.heap.size W w') := fun W hb => by
  have h9 := RunScript_any (scText acts) W (HT.out.below hb) (HM.out.below hb) (by omega)
  rw [hrc.1, hrc.2] at h9
  exact h9
 have hnb := sv0_nums (acts := acts) (by omega)
 have hout : outOf acts = (runActs (newV 200 100 1) acts).2.map Lib.itoa ++ fmtV (runActs (newV 200 100 1) acts).1 := rfl
 rw [show sv0 = newV 200 100 1 from rfl] at hnb
 have h1 := fun (W : World) (A2 : Option Addr) (c2 : Nat) (R2 : Option Addr) (d2 : Nat) (hb : Below w.heap.size w W) (q1 : RdT W W.heap.size A2 c2 (newV 200 100 1).book.evs) (q2 : RdT W W.heap.size R2 d2 (newV 200 100 1).rights) => RunActs_any A2 c2 R2 d2 (newV 200 100 1) B n acts W q1 q2 (hr3.below hb) (by simp [newV])
 have h4 := fun (W : World) => SampleVillage_any W
 obtain ⟨⟨x, ns⟩, hE⟩ : ∃ r, runActs (newV 200 100 1) acts = r := ⟨_, rfl⟩
 rw [hE] at h1 hnb hout
 simp only at hnb hout
 have hlx := vg_lens hnb.2.2
 have h6 := fun (W : World) (A2 : Option Addr) (c2 : Nat) (R2 : Option Addr) (d2 : Nat) (q1 : RdT W W.heap.size A2 c2 x.book.evs) (q2 : RdT W W.heap.size R2 d2 x.rights) (q3 : Tab W) => FormatVillage_any A2 c2 R2 d2 x W q1 q2 (by omega) q3
 have hfl := fmtV_len9 x
 unfold RunRet at h1
 unfold VgOne at h4
 unfold Vg.val at h1 h4 h6 ⊢
 simp only [newV, List.length_nil, List.length_cons, Nat.zero_add] at h4
 simp only [newV, List.length_nil, List.length_cons, Nat.zero_add] at h1
 obtain ⟨fm, hfm⟩ : ∃ fm, fm = fmtV x := ⟨_, rfl⟩
 rw [← hfm] at h6 hfl hout
 obtain ⟨ou, hou⟩ : ∃ ou, ou = outOf acts := ⟨_, rfl⟩
 rw [← hou] at HRS hout
 obtain ⟨tx, htx⟩ : ∃ tx, tx = scText acts := ⟨_, rfl⟩
 rw [← htx] at HST HRS
 obtain ⟨⟨room', start', el, lv', ra', dr', lo'⟩, rs'⟩ := x
 simp only at h1 h6
 have hn40 : ns.length ≤ 40 := by omega
 have HNB := Lib.hid hnb.2.1
 have HOUT := Lib.hid hout
 have H1 := Lib.hid h1
 have H4 := Lib.hid h4
 have HVF := Lib.hid h6
 have HTY : Hid (∀ W, Below w.heap.size w W → Tab W) := fun W hb => HT.out.below hb
 clear hv hok hr1 hr2 hr3 hB00 h1 h4 h6 hout hnb hfm hE hlx hou htx hsc hrc hst
 have hB := Below.refl w.heap.size w
 go_wp2_with fail
 refine (HST.out _ (by exact tacT)).mono ?_
 rintro e w2 ⟨rfl, hb⟩
 replace hB : Below w.heap.size w w2 := by exact tacT
 have hzz2 := hB.size
 clear hb HST
 go_wp2_with fail
 refine (HRS.out _ hB).mono ?_
 rintro e w3 ⟨AO, cO, rfl, hoO, hb⟩
 have hr_o := Row2.born hoO
 replace hB := hB.trans (Below.mono hb hB.size)
 have hz_w3 : w2.heap.size ≤ w3.heap.size := Below.size hb
 clear hb
 clear hoO HRS
 go_wp2_with fail
 refine (H4.out _).mono ?_
 rintro e w4 ⟨A2, c2, R2, d2, rfl, ho1, ho2, hb⟩
 have hr_e2 := Row2.born ho1
 have hr_s2 := Row2.born ho2
 clear ho1 ho2
 replace hB := hB.trans (Below.mono hb hB.size)
 have hz_w4 : w3.heap.size ≤ w4.heap.size := Below.size hb
 replace hr_o := Row2.below hr_o hb (by omega)
 clear hb
 go_wp2_with fail
 refine (H1.out _ _ _ _ _ hB hr_e2.rd hr_s2.rd).mono ?_
 rintro e w5 ⟨A3, c3, R3, d3, B3, n3, rfl, la, lb, na, nb, -, hq0, -, hq2, -, hr_e, hr_s, hr_n, hb⟩
 replace hB := hB.trans (Below.mono hb hB.size)
 have hz_w5 : w4.heap.size ≤ w5.heap.size := Below.size hb
 replace hr_o := Row2.below hr_o hb (by omega)
 clear hb
 clear H1 H4 hr_e2 hr_s2
 go_upto_region 7 with fail
 first | refine name_world ?_ | refine name_wp ?_
 intro W4 hW
 replace hB : Below w.heap.size w W4 := by rw [hW]; exact tacT
 have hz_W4 : w5.heap.size ≤ W4.heap.size := by rw [hW]; exact sT
 replace kb_x : Blk W4 (w5.heap.size) 35 #[.int .i64 room', .int .i64 start', .slice A3 el.length c3, .int .i64 lv', .int .i64 ra', .int .i64 dr', .int .i64 lo', .slice R3 rs'.length d3] := by rw [hW]; exact blkT
 have hLW4_x := kb_x.lt
 replace hr_e : Row2 W4 (la) (lb) 120 3 A3 (el.length) c3 (t3s el) := by rw [hW]; exact rowT
 replace hr_s : Row2 W4 (la) (lb) 69 3 R3 (rs'.length) d3 (t3s rs') := by rw [hW]; exact rowT
 replace hr_n : Row2 W4 (na) (nb) 3 1 B3 (ns.length) n3 (ints ns) := by rw [hW]; exact rowT
 replace hr_o : Row2 W4 (w2.heap.size) (w3.heap.size) 9 1 AO (ou.length) cO (strs ou) := by rw [hW]; exact rowT
 try clear kc_x kf_x
 clear hW
 have HRE := Lib.hid (And.intro hr_e.rd hr_s.rd)
 have hrn : RdI W4 W4.heap.size B3 n3 ns := hr_n.rd
 have HRN := Lib.hid hrn
 have hro : RdSt W4 W4.heap.size AO cO ou := hr_o.rd
 have HRO := Lib.hid hro
 have HKX := Lib.hid kb_x
 have hBW4 := Lib.hid hB
 have hzw4 := hB.size
 clear hr_e hr_s hr_n hrn hro hr_o kb_x hB
 go_wp2_with fail
 go_loopw [11, 12] (fun v i wq => ∃ (k : Nat) (A' : Option Addr) (c' : Nat) (out : List (List UInt8)), k ≤ ns.length ∧ i = .int .i64 k ∧ v = .slice A' out.length c' ∧ Hid (out = (ns.take k).map Lib.itoa ∧ out.length = k) ∧ Hid (OwnSt wq W4.heap.size A' c' out) ∧ Below W4.heap.size W4 wq) (fun _ i _ => ns.length - (intOf i).toNat)
 case atStart => exact ⟨0, _, 0, [], Nat.zero_le _, rfl, rfl, ⟨by simp, rfl⟩, ownEmpty W4 W4.heap.size 9 1 (Nat.le_refl _), Below.alloc (Below.refl _ _) (Nat.le_refl _) _⟩
 case round =>
  obtain ⟨k, A', c', out, hk, rfl, rfl, HL, HO, hB⟩ := hrel
  have hbs := hB.size
  have hol : out.length ≤ 40 := by have := HL.out.2; omega
  by_cases hlt : k < ns.length
  ·obtain ⟨b9, o9, z, rfl, hb9, hz, hc9⟩ := HRN.out.at_ hlt
   have f0 : wr.cell? ⟨b9, o9 + k, none⟩ = some (.int .i64 z) := (hB.cell (p := ⟨b9, _, none⟩) hb9).trans hc9
   have hlb : b9 < wr.heap.size := by omega
   have hk0 : (0 : Int) ≤ (k : Int) := by omega
   have hk1 : (k : Int) < (ns.length : Int) := by omega
   have hzb := HNB.out z (List.mem_of_getElem? hz)
   have HFI := Lib.hid (fun (W : World) (h : Tab W) => FormatInt_any z W (by omega) (by omega) h)
   obtain ⟨tz, htz⟩ : ∃ tz, tz = Lib.itoa z := ⟨_, rfl⟩
   rw [← htz] at HFI
   have HN : Hid (out ++ [tz] = (ns.take (k + 1)).map Lib.itoa ∧ (out ++ [tz]).length = k + 1) := ⟨by rw [List.take_add_one, hz, HL.out.1, htz]; simp, by rw [List.length_append, HL.out.2]; rfl⟩
   have HTQ := Lib.hid (HTY.out _ (hBW4.out.trans (hB.mono hBW4.out.size)))
   clear hz htz hc9 HL
   go_wp2_with fail
   refine (HFI.out _ HTQ.out).mono ?_
   rintro e w7 ⟨rfl, hb⟩
   have ho6 : OwnSt (w7.alloc (.cells #[sv tz] 9)) W4.heap.size A' c' out := World.ownsRow.alloc (own_below HO.out hb (Nat.le_refl _)) _
   have hB5 := hB.trans (hb.mono hB.size)
   have hbs5 := hB5.size
   clear hb HO hB f0 HFI
   go_wp2_with (at_builtin; refine wpList_appSt rfl _ _ rfl W4.heap.size A' c' out rfl ho6 w7.heap.size tz rfl (cell_new1 _ _ _) (by omega) (by exact oT) ?_)
   intro A5 c5 w6 ho7 hg7
   have hB6 := below_grown_own (hB5.alloc hbs5 (.cells #[sv tz] 9)) ho6 hg7 (Nat.le_refl _) (by exact oT)
   have H6 := Lib.hid (And.intro ho7 hB6)
   clear ho7 hB6 hg7 ho6
   go_wp2_with fail
   go_roundw
   case rel => exact ⟨k + 1, A5, c5, out ++ [tz], by omega, by go_num, by rw [List.length_append]; rfl, HN.out, H6.out.1, H6.out.2⟩
   case measure => simp [intOf]; omega
  ·obtain rfl : k = ns.length := by omega
   have hk1 : ¬ (ns.length : Int) < (ns.length : Int) := by omega
   have kb_x := HKX.out.below hB HKX.out.lt
   have kc_x := kb_x.cells
   have hl_x := kb_x.lt
   have hout : out = ns.map Lib.itoa := by have := HL.out.1; rwa [List.take_length] at this
   have HFIN : Hid (ou = out ++ fm) := by show _ = _; rw [HOUT.out, hout]
   have HTQ := Lib.hid (HTY.out _ (hBW4.out.trans (hB.mono hBW4.out.size)))
   have HRE2 := Lib.hid (And.intro (RdT.below HRE.out.1 hB) (RdT.below HRE.out.2 hB))
   have HRO4 := HRO
   clear kb_x hout HL HOUT HRE HRN HKX
   go_wp2_with fail
   refine (HVF.out _ _ _ _ _ HRE2.out.1 HRE2.out.2 HTQ.out).mono ?_
   rintro e w5 ⟨AF, cF, rfl, hoF, hb⟩
   have ho5 : OwnSt w5 W4.heap.size A' c' out := own_below HO.out hb (Nat.le_refl _)
   have hB5 := hB.trans (hb.mono hB.size)
   have hbs5 := hB5.size
   have hrF : RdSt w5 w5.heap.size AF cF fm := OwnSt.rd hoF
   clear hb HO hB kc_x hl_x hoF
   go_wp2_with (at_builtin; refine wpList_appAll rfl _ _ 22 rfl W4.heap.size 9 (.string ⟨#[]⟩) 1 16 Tryz.underlying22 infoSt rfl (by decide) (.slice A' out.length c') out.length (strs out) rfl ho5 _ AF fm.length cF (strs fm) rfl hrF (strs_one fm) (by omega) (by omega) (by exact ooT) ?_)
   intro A6 c6 w6 ho6 hg6
   have hB6 := below_grown_own hB5 ho5 hg6 (Nat.le_refl _) hbs5
   have hrW : RdSt w6 w6.heap.size A6 c6 (out ++ fm) := by
    unfold RdSt
    rw [strs_app, List.length_append]
    exact Rd.of_own ho6
   have hroW : RdSt w6 w6.heap.size AO cO ou := Rd.below' (Rd.below' HRO4.out hB6) (Below.refl _ _)
   rw [← HFIN.out] at hrW
   have hol2 : out.length + fm.length = ou.length := by rw [HFIN.out, List.length_append]
   have HST := Lib.hid (sameTexts_same AO cO A6 c6 ou w6 hroW hrW)
   rw [hol2]
   have HB6 := Lib.hid hB6
   clear ho6 hg6 ho5 hB6 hrW hroW hol2 hrF hB5
   go_wp2_with fail
   refine HST.out.mono ?_
   rintro e w7 ⟨rfl, hb⟩
   go_wp2_with fail
   go_ret
   exact ⟨rfl, HB0.out.trans ((hBW4.out.trans ((HB6.out.trans (hb.mono HB6.out.size)).mono hBW4.out.size)).mono HB0.out.size)⟩
theorem tab_of_FnScripts {W : World} (h : laidMetH Tryz.prog [("math/bits.deBruijn32tab", Rows.laid_math_bits_deBruijn32tab), ("math/bits.deBruijn64tab", Rows.laid_math_bits_deBruijn64tab), ("internal/strconv.uint64pow10", Rows.laid_internal_strconv_uint64pow10), ("unicode/utf8.acceptRanges", Rows.laid_unicode_utf8_acceptRanges), ("unicode/utf8.first", Rows.laid_unicode_utf8_first)] W) : Tab W := by
 rw [MakeChecks.laidMetH_plain _ _ _ (by kernel_rfl)] at h
 exact Lib.tabIs_of_head (g := 1) (t := 158) (e := 147) (n := 20) (by kernel_rfl) (by kernel_rfl) Tryz.underlying158 Tryz.underlying147 (by kernel_rfl) (by kernel_rfl) ((h).tail).tail
theorem door_met_FnScripts (os : Os) (args : Array Value) : laidMetH Tryz.prog [("math/bits.deBruijn32tab", Rows.laid_math_bits_deBruijn32tab), ("math/bits.deBruijn64tab", Rows.laid_math_bits_deBruijn64tab), ("internal/strconv.uint64pow10", Rows.laid_internal_strconv_uint64pow10), ("unicode/utf8.acceptRanges", Rows.laid_unicode_utf8_acceptRanges), ("unicode/utf8.first", Rows.laid_unicode_utf8_first)] ((World.laidAll Tryz.prog os [("math/bits.deBruijn32tab", Rows.laid_math_bits_deBruijn32tab), ("math/bits.deBruijn64tab", Rows.laid_math_bits_deBruijn64tab), ("internal/strconv.uint64pow10", Rows.laid_internal_strconv_uint64pow10), ("unicode/utf8.acceptRanges", Rows.laid_unicode_utf8_acceptRanges), ("unicode/utf8.first", Rows.laid_unicode_utf8_first)]).forCall (fun _ _ => 0) ⟨#[], args, []⟩).memory :=
 by
 rw [MakeChecks.laidMetH_plain _ _ _ (by kernel_rfl)]
 exact laidMet_laidAll _ (by kernel_rfl) (by kernel_rfl)
set_option maxRecDepth 100000 in
theorem lifted_FnScripts (os : Os) (started : os.Started) (H : Type) (enc : TypeId × Value → H) :
  ReturnsInHanded {} Tryz.checked os 4 .any (fun w args => (Rows.fnScriptsSpec.pre enc Tryz.prog Tryz.f4 [] false w args ∧ laidMetH Tryz.prog [("math/bits.deBruijn32tab", Rows.laid_math_bits_deBruijn32tab), ("math/bits.deBruijn64tab", Rows.laid_math_bits_deBruijn64tab), ("internal/strconv.uint64pow10", Rows.laid_internal_strconv_uint64pow10), ("unicode/utf8.acceptRanges", Rows.laid_unicode_utf8_acceptRanges), ("unicode/utf8.first", Rows.laid_unicode_utf8_first)] w) ∧ sizedMet enc Tryz.prog Tryz.f4 (OpenSpec.ofChange Rows.fnScriptsSpec) false w args) (Rows.fnScriptsSpec.post enc Tryz.prog Tryz.f4 false true false false) := by
 refine wrap_shaped (C := Tryz.checked) (X := fun w => laidMetH Tryz.prog [("math/bits.deBruijn32tab", Rows.laid_math_bits_deBruijn32tab), ("math/bits.deBruijn64tab", Rows.laid_math_bits_deBruijn64tab), ("internal/strconv.uint64pow10", Rows.laid_internal_strconv_uint64pow10), ("unicode/utf8.acceptRanges", Rows.laid_unicode_utf8_acceptRanges), ("unicode/utf8.first", Rows.laid_unicode_utf8_first)] w) (fun _ _ hh h => h.of_heap hh) own_knob started (by kernel_rfl) Tryz.func4
  (ChangeSpec.witness_shaped (enc := enc) (C := Tryz.checked) (os := os) (X := fun w _ => laidMetH Tryz.prog [("math/bits.deBruijn32tab", Rows.laid_math_bits_deBruijn32tab), ("math/bits.deBruijn64tab", Rows.laid_math_bits_deBruijn64tab), ("internal/strconv.uint64pow10", Rows.laid_internal_strconv_uint64pow10), ("unicode/utf8.acceptRanges", Rows.laid_unicode_utf8_acceptRanges), ("unicode/utf8.first", Rows.laid_unicode_utf8_first)] w) false (World.laidAll Tryz.prog os [("math/bits.deBruijn32tab", Rows.laid_math_bits_deBruijn32tab), ("math/bits.deBruijn64tab", Rows.laid_math_bits_deBruijn64tab), ("internal/strconv.uint64pow10", Rows.laid_internal_strconv_uint64pow10), ("unicode/utf8.acceptRanges", Rows.laid_unicode_utf8_acceptRanges), ("unicode/utf8.first", Rows.laid_unicode_utf8_first)]) #[.slice none 0 0] 8 (World.laidAll_os _ _ _) (World.shaped_of_ZipB (by kernel_rfl) (by kernel_rfl)) (by kernel_rfl) (by kernel_rfl) (by kernel_rfl) (door_met_FnScripts os _)) ?_
 intro W base args ds gs before hval0 hW hL hsh
 have ht := tab_of_FnScripts hL
 have hm : MaxLen W := cell_of_shapedOpen_int (P := Tryz.prog) (g := 0) (t := 3) (zero := #[.int .i64 0]) hsh (of_decide_eq_true (by kernel_rfl)) (by kernel_rfl) rfl (by kernel_rfl) (by kernel_rfl) Tryz.underlying3
 have hval : ∀ (j : Nat) t v, Tryz.f4.params[j]? = some t → args[j]? = some v → Value.okWide Tryz.prog W .any base t v := hval0
 have hW' := hW
 obtain ⟨p, q, hA0, hV, rfl, hfz, hnd⟩ := hW
 have hA : DataW.TrodAll enc Tryz.prog W 0 (fun _ => true) true Tryz.f4.params.toList args.toList ds p := hA0
 rw [Tryz.params4] at hA hval
 obtain ⟨v0, vs0, d0, ds0, p0, q0, hargs, rfl, rfl, h0, r0⟩ := trodAll_cons hA
 obtain ⟨rfl, rfl, rfl⟩ := trodAll_nil r0
 obtain rfl : args = #[v0] := by cases args; simp_all
 obtain ⟨rfl, rfl⟩ := trodVars_none hV
 obtain ⟨A0, c0, l0, rfl, hr0⟩ := arg_bytes (hval 0 28 v0 rfl rfl) h0
 have lt0 : ∀ x ∈ p0, x.block < W.heap.size := by obtain ⟨m, hm⟩ := h0; exact DataW.trod_lt m _ _ _ hm
 clear hA0 hval0
 refine (walk_FnScripts W ht hm A0 c0 l0 hr0).mono fun e W' ⟨he, bel⟩ => ?_
 subst he
 exact ⟨_, rfl, _, _, _, [], _, [], hW', trodAll_mk1 (shut_bool Tryz.underlying4 _), (trodAll_cons_mk (Below.trod laid_out (by kernel_rfl) (of_decide_eq_true (by kernel_rfl)) h0 bel lt0) trodAll_mk0), rfl, bel.frame _, fun h => by cases h⟩

theorem fnScripts_row : Rows.FnScriptsSaid :=
 OpenClaim.holds_of_wide 4 Tryz.f4 rfl rfl rfl rfl rfl rfl rfl ⟨rfl, rfl, rfl, rfl, rfl⟩ rfl rfl rfl rfl rfl (by kernel_rfl) Tryz.func4 (by kernel_rfl)
  (of_decide_eq_true (by kernel_rfl)) (by unfold Func.isWrapper; rw [if_neg (by decide +kernel)]; exact ⟨rfl, rfl⟩)
  (fun os started H enc _ => lifted_FnScripts os started H enc)

theorem fnScripts_holds : Rows.FnScriptsCardSaid :=
 Claim7.holds_tied_plain_at .later [] [.data, .data, .data, .data, .pinned] true (true, "0dd05cc1e6977aca7bd5b1880339633280beee239cbde02fd64f7edbc905c742") false
  fnScripts_row (fun _ h => by cases h) (by kernel_rfl) (fun _ h => by cases h) fnScripts_row_tie rfl ⟨rfl, rfl⟩ (by kernel_rfl) rfl
  (fun f fn hf hfn => by
   obtain rfl : f = 4 := Option.some.inj ((show Tryz.prog.funcNamed "loop.example/g03307/laws.FnScripts" = some 4 by kernel_rfl).symm.trans hf) |>.symm
   obtain rfl : fn = Tryz.f4 := (Option.some.inj (Tryz.func4.symm.trans hfn)).symm
   exact ⟨by kernel_rfl, fun j t ht => by
    rw [Tryz.params4] at ht
    have hm : t ∈ [28] := by simpa using Array.mem_of_getElem? ht
    have hall : ([28].all fun u => !Tryz.prog.wantsStandIn u) = true := by kernel_rfl
    exact (show Tryz.prog.wantsStandIn t = false by simpa using List.all_eq_true.1 hall t hm)⟩)
  (by kernel_rfl)
end
section
open Go.RowKit
set_option maxRecDepth 20000
theorem runL_from (l : List T3) : ∀ (v : Vg) (n : List Int), l.foldl (fun p a => ((doAct p.1 a.x a.y a.z).1, p.2 ++ [(doAct p.1 a.x a.y a.z).2])) (v, n) = ((runL v l).1, n ++ (runL v l).2) := by
 induction l with
 |nil => intro v n; simp [runL_nil]
 |cons a l ih =>
  intro v n
  unfold runL
  rw [List.foldl_cons, List.foldl_cons, ih, ih]
  simp
theorem runL_app (v : Vg) (l m : List T3) : runL v (l ++ m) = ((runL (runL v l).1 m).1, (runL v l).2 ++ (runL (runL v l).1 m).2) := by
 have : runL v (l ++ m) = m.foldl (fun p a => ((doAct p.1 a.x a.y a.z).1, p.2 ++ [(doAct p.1 a.x a.y a.z).2])) (runL v l) := by
  unfold runL; rw [List.foldl_append]
 rw [this, ← runL_from]
theorem run_parts {v : Vg} (hv : villageOk v = true) {l : List T3} (hl : l.length ≤ 40) (k : Nat) :
  (runActs v l).1 = (runActs (runActs v (l.take k)).1 (l.drop k)).1 ∧ (runActs v l).2 = (runActs v (l.take k)).2 ++ (runActs (runActs v (l.take k)).1 (l.drop k)).2 := by
 have h1 : runActs v l = runL v l := by unfold runActs; rw [if_pos ⟨hv, hl⟩]
 have h2 : runActs v (l.take k) = runL v (l.take k) := by unfold runActs; rw [if_pos ⟨hv, by rw [List.length_take]; omega⟩]
 have hk := (run_keeps hv (l := l.take k) (by rw [List.length_take]; omega)).1
 have h3 : runActs (runActs v (l.take k)).1 (l.drop k) = runL (runActs v (l.take k)).1 (l.drop k) := by unfold runActs at hk ⊢; rw [if_pos ⟨hk, by rw [List.length_drop]; omega⟩]
 rw [h1, h3, h2]
 have := runL_app v (l.take k) (l.drop k)
 rw [List.take_append_drop] at this
 rw [this]
 exact ⟨rfl, rfl⟩
theorem fmt_some {v : Vg} (hv : villageOk v = true) : 0 < (fmtV v).length := by
 rw [fmtV_yes hv]; simp
end
end Go.Proofs.YtpmmjhpmheooeaaGreatDoor
