/- Texts of the proof, joined: Script, Deed, FmtPure, RsPure, Split. -/
import Derived.Test.YtpmmjhpmheooeaaGreatDoorQ33
import Derived.Test.YtpmmjhpmheooeaaGreatDoorQ20
import Derived.Lib.AppendStr
import Derived.Test.YtpmmjhpmheooeaaGreatDoorQ32
import Derived.Test.YtpmmjhpmheooeaaGreatDoorQ31
import Derived.Test.YtpmmjhpmheooeaaGreatDoorQ1
import Derived.Test.YtpmmjhpmheooeaaGreatDoorQ21
import Derived.Test.YtpmmjhpmheooeaaGreatDoorQ11
import Derived.Test.YtpmmjhpmheooeaaGreatDoorQ27
import Derived.Test.YtpmmjhpmheooeaaGreatDoorQ29
namespace Go.Proofs.YtpmmjhpmheooeaaGreatDoor
set_option linter.unusedSimpArgs false
set_option linter.unusedVariables false
section
open Go.RowKit
set_option maxRecDepth 20000
def u8s (l : List UInt8) : List Value := l.map fun b => Value.int .u8 b.toNat
def OwnU (w : World) (base : Nat) (g c : Nat) (l : List UInt8) : Prop := w.ownsRow base 5 1 (.slice (some ⟨g, 0, none⟩) l.length c) l.length (u8s l)
theorem OwnU.conv {w : World} {base g c : Nat} {l : List UInt8} (h : OwnU w base g c l) : (convert 28 9 (.slice (some ⟨g, 0, none⟩) l.length c)).run Tryz.prog w = .ok (sv l) w :=
 run_convert_bytes_back _ _ _ 5 ⟨g, 0, none⟩ c l Tryz.underlying28 Tryz.underlying5 Tryz.underlying9 (fun j hj => by
  have := World.ownsRow.cells h (g := g) rfl j _ (show (u8s l)[j]? = some (.int .u8 (l[j].toNat)) by simp [u8s, hj])
  exact this)
def actsOk (l : List T3) : Bool := l.all fun e => actOk e.x e.y e.z
def scText (l : List T3) : List UInt8 := l.flatMap fun e => actText e.x e.y e.z ++ [10]
def scriptOk (l : List T3) : Bool := decide (l.length ≤ 40) && actsOk l
def scriptText (l : List T3) : List UInt8 := if scriptOk l then scText l else []
theorem actText_len (k a b : Int) : (actText k a b).length ≤ 50 := by
 cases hk : actOk k a b
 ·rw [actText_no hk]; simp
 ·obtain ⟨_, h1, h2, h3, h4⟩ := actOk_cases hk
  have := act_len ⟨h1, h2⟩
  have := act_len ⟨h3, h4⟩
  have hw : (actWord k).length ≤ 5 := by unfold actWord; (repeat' split) <;> decide
  cases h2' : actTwo k
  ·rw [actText_one hk h2', List.length_append, List.length_cons]; omega
  ·rw [actText_two hk h2', List.length_append, List.length_cons, List.length_append, List.length_cons]; omega
theorem scText_len : ∀ l : List T3, (scText l).length ≤ l.length * 51
 | [] => by simp [scText]
 |e :: l => by
  have h1 := scText_len l
  have h2 := actText_len e.x e.y e.z
  have : scText (e :: l) = (actText e.x e.y e.z ++ [10]) ++ scText l := rfl
  rw [this, List.length_append, List.length_append, List.length_cons]
  simp only [List.length_cons, List.length_nil]
  omega
theorem take_snoc {l : List T3} {k : Nat} {e : T3} (h : l[k]? = some e) : l.take (k + 1) = l.take k ++ [e] := by
 rw [List.take_add_one, h]; rfl
theorem scText_snoc {l : List T3} {k : Nat} {e : T3} (h : l[k]? = some e) : scText (l.take (k + 1)) = scText (l.take k) ++ (actText e.x e.y e.z ++ [10]) := by
 rw [take_snoc h]; simp [scText]
theorem actsOk_snoc {l : List T3} {k : Nat} {e : T3} (h : l[k]? = some e) : actsOk (l.take (k + 1)) = (actsOk (l.take k) && actOk e.x e.y e.z) := by
 rw [take_snoc h]; simp [actsOk]
theorem actsOk_not {l : List T3} {k : Nat} {e : T3} (h : l[k]? = some e) (hk : actOk e.x e.y e.z = false) : scriptOk l = false := by
 unfold scriptOk actsOk
 have : l.all (fun e => actOk e.x e.y e.z) = false := by
  rw [List.all_eq_false]
  exact ⟨e, List.mem_of_getElem? h, by rw [hk]; simp⟩
 rw [this]; simp
theorem scriptOk_big {l : List T3} (h : 40 < l.length) : scriptOk l = false := by
 unfold scriptOk; rw [decide_eq_false (by omega)]; rfl
theorem scriptOk_yes {l : List T3} (h : l.length ≤ 40) (h2 : actsOk (l.take l.length) = true) : scriptOk l = true := by
 unfold scriptOk; rw [List.take_length] at h2; rw [decide_eq_true h, h2]; rfl
theorem script_no {l : List T3} (h : scriptOk l = false) : scriptText l = [] := by unfold scriptText; rw [h]; rfl
theorem script_yes {l : List T3} (h : scriptOk l = true) : scriptText l = scText l := by unfold scriptText; rw [h]; rfl
theorem sv_line (a b : List UInt8) : Value.string (⟨a.toArray⟩ ++ (⟨b.toArray⟩ ++ ⟨#[10]⟩)) = sv (a ++ (b ++ [10])) := by
 refine congrArg _ (ByteArray.ext ?_)
 simp
set_option maxHeartbeats 3200000 in
theorem ScriptText_any (A : Option Addr) (c : Nat) (l : List T3) (w : World) (h : RdT w w.heap.size A c l) (ht : Tab w) :
  Calls Tryz.prog 13 #[.slice A l.length c] w fun e w' => e = .returned (.tuple #[sv (scriptText l), .bool (scriptOk l)]) ∧ Below w.heap.size w w' := by
 obtain ⟨hl, hm⟩ := h.le
 have hB := Below.refl w.heap.size w
 by_cases hbig : 40 < l.length
 ·have HK := Lib.hid (scriptOk_big hbig)
  have HE := Lib.hid (script_no HK.out)
  have g1 : (40 : Int) < (l.length : Int) := by omega
  go_enter Tryz.func13, Tryz.ntmps13
  go_wp2_with fail
  exact bodyPost_ret (v := .tuple #[sv [], .bool false]) (by simp [results, Tryz.results13, go_sem]) rfl ⟨by rw [HE.out, HK.out], hB⟩
 have g1 : ¬ (40 : Int) < (l.length : Int) := by omega
 go_enter Tryz.func13, Tryz.ntmps13
 go_wp2_with fail
 go_loopw [4, 14] (fun s i wr => ∃ (k : Nat), k ≤ l.length ∧ i = .int .i64 k ∧ s = sv (scText (l.take k)) ∧ Hid (actsOk (l.take k) = true) ∧ Below w.heap.size w wr) (fun _ i _ => l.length - (intOf i).toNat)
 case atStart => exact ⟨0, Nat.zero_le _, rfl, by simp [scText], (by show actsOk (l.take 0) = true; simp [actsOk]), Below.refl _ _⟩
 case round =>
  obtain ⟨k, hk, rfl, rfl, HA, hB⟩ := hrel
  have hbs := hB.size
  have htl : (scText (l.take k)).length ≤ 40 * 51 := by
   have h1 := scText_len (l.take k)
   have h2 : (l.take k).length ≤ 40 := by rw [List.length_take]; omega
   omega
  by_cases hlt : k < l.length
  ·obtain ⟨bb, o, x, rfl, hbb, hx, e0, e1, e2⟩ := h.at_ hlt
   have f0 : wr.cell? ⟨bb, o + k * 3, none⟩ = some (.int .i64 x.x) := (hB.cell (p := ⟨bb, _, none⟩) hbb).trans e0
   have f1 : wr.cell? ⟨bb, o + k * 3 + 1, none⟩ = some (.int .i64 x.y) := (hB.cell (p := ⟨bb, _, none⟩) hbb).trans e1
   have f2 : wr.cell? ⟨bb, o + k * 3 + 2, none⟩ = some (.int .i64 x.z) := (hB.cell (p := ⟨bb, _, none⟩) hbb).trans e2
   clear e0 e1 e2
   have hlb : bb < wr.heap.size := by omega
   have hk0 : (0 : Int) ≤ (k : Int) := by omega
   have hk1 : (k : Int) < (l.length : Int) := by omega
   have HF := Lib.hid (fun W (h : Tab W) => FormatAct_any x.x x.y x.z W h)
   have htx := actText_len x.x x.y x.z
   obtain ⟨tx, hte⟩ : ∃ tx, tx = actText x.x x.y x.z := ⟨_, rfl⟩
   obtain ⟨ta, htae⟩ : ∃ ta, ta = scText (l.take k) := ⟨_, rfl⟩
   rw [← htae] at htl ⊢
   have HTA := Lib.hid htae
   have HT := Lib.hid (ht.below hB)
   have c1 : ¬ 9223372036854775807 < tx.length + 1 := by rw [hte]; omega
   have c2 : ¬ 9223372036854775807 < ta.length + (tx.length + 1) := by rw [hte]; omega
   have HX := Lib.hid hx
   rw [← hte] at HF htx
   have HTE := Lib.hid hte
   clear hx hte htae
   cases hok : actOk x.x x.y x.z
   ·rw [hok] at HF
    have HK := Lib.hid (actsOk_not HX.out hok)
    have HE := Lib.hid (script_no HK.out)
    clear hok
    go_wp2_with fail
    first | refine name_world ?_ | refine name_wp ?_
    intro W1 hW
    replace hB : Below w.heap.size w W1 := by rw [hW]; exact tacT
    have hz_W1 : wr.heap.size ≤ W1.heap.size := by rw [hW]; exact sT
    replace kb_r : Blk W1 (wr.heap.size) 50 #[.int .i64 x.x, .int .i64 x.y, .int .i64 x.z] := by rw [hW]; exact blkT
    have hLW1_r := kb_r.lt
    try clear kc_r kf_r
    clear hW
    refine (HF.out _ (ht.below hB)).mono ?_
    rintro e w2 ⟨rfl, hb⟩
    replace hB := hB.trans (Below.mono hb hB.size)
    have hz_w2 : W1.heap.size ≤ w2.heap.size := Below.size hb
    replace kb_r := kb_r.mv hb; obtain ⟨kb_r, kc_r, kf_r, hl_r, hn_r⟩ := kb_r
    clear hb
    go_wp2_with fail
    exact bodyPost_ret (v := .tuple #[sv [], .bool false]) (by simp [results, Tryz.results13, go_sem]) rfl ⟨by rw [HE.out, HK.out], hB⟩
   ·rw [hok] at HF
    have HN : Hid (actsOk (l.take (k + 1)) = true) := by show _ = _; rw [actsOk_snoc HX.out, HA.out, hok]; rfl
    clear hok
    go_wp2_with fail
    first | refine name_world ?_ | refine name_wp ?_
    intro W1 hW
    replace hB : Below w.heap.size w W1 := by rw [hW]; exact tacT
    have hz_W1 : wr.heap.size ≤ W1.heap.size := by rw [hW]; exact sT
    replace kb_r : Blk W1 (wr.heap.size) 50 #[.int .i64 x.x, .int .i64 x.y, .int .i64 x.z] := by rw [hW]; exact blkT
    have hLW1_r := kb_r.lt
    try clear kc_r kf_r
    clear hW
    refine (HF.out _ (ht.below hB)).mono ?_
    rintro e w2 ⟨rfl, hb⟩
    replace hB := hB.trans (Below.mono hb hB.size)
    have hz_w2 : W1.heap.size ≤ w2.heap.size := Below.size hb
    replace kb_r := kb_r.mv hb; obtain ⟨kb_r, kc_r, kf_r, hl_r, hn_r⟩ := kb_r
    clear hb
    go_wp2_with fail
    go_roundw
    case rel => exact ⟨k + 1, by omega, by go_num, by rw [scText_snoc HX.out, ← HTA.out, ← HTE.out]; exact sv_line _ _, HN, by exact tacT⟩
    case measure => simp [intOf]; omega
  ·have hk1 : ¬ (k : Int) < (l.length : Int) := by omega
   obtain rfl : k = l.length := by omega
   have HK := Lib.hid (scriptOk_yes (by omega) HA.out)
   have HE : Hid (sv (scText (l.take l.length)) = sv (scriptText l)) := by show _ = _; rw [script_yes HK.out, List.take_length]
   go_wp2_with fail
   exact bodyPost_ret (v := .tuple #[sv (scText (l.take l.length)), .bool true]) (by simp [results, Tryz.results13, go_sem]) rfl ⟨by rw [HE.out, HK.out], hB⟩
end
section
open Go.RowKit
set_option maxRecDepth 20000
set_option maxHeartbeats 3200000 in
theorem DeedText_any (A : Option Addr) (c : Nat) (l : List T3) (w : World) (h : RdT w w.heap.size A c l) (ht : Tab w) :
  Calls Tryz.prog 40 #[.slice A l.length c] w fun e w' => e = .returned (sv (deedText l)) ∧ Below w.heap.size w w' := by
 obtain ⟨hl, hm⟩ := h.le
 have hB := Below.refl w.heap.size w
 have HC := Lib.hid (RightsOk_any A c l w h)
 cases hok : rightsOk l
 ·rw [hok] at HC
  have HE := Lib.hid (deedText_no hok)
  clear hok
  go_enter Tryz.func40, Tryz.ntmps40
  go_wp2_with fail
  refine HC.out.mono ?_
  rintro e w1 ⟨rfl, hb⟩
  replace hB := hB.trans (Below.mono hb hB.size)
  have hz_w1 : w.heap.size ≤ w1.heap.size := Below.size hb
  clear hb
  go_wp2_with fail
  go_ret
  exact ⟨by rw [HE.out]; rfl, hB⟩
 have hlen := rightsOk_len hok
 have HE := Lib.hid (deedText_yes hok)
 rw [hok] at HC
 clear hok
 go_enter Tryz.func40, Tryz.ntmps40
 go_wp2_with fail
 refine HC.out.mono ?_
 rintro e w1 ⟨rfl, hb⟩
 replace hB := hB.trans (Below.mono hb hB.size)
 have hz_w1 : w.heap.size ≤ w1.heap.size := Below.size hb
 clear hb
 go_wp2_with fail
 go_loopw [3, 11] (fun v i wr => ∃ (k : Nat) (A' : Option Addr) (c' : Nat), k ≤ l.length ∧ i = .int .i64 k ∧ v = .slice A' (deedL (l.take k)).length c' ∧ OwnSt wr w.heap.size A' c' (deedL (l.take k)) ∧ Below w.heap.size w wr) (fun _ i _ => l.length - (intOf i).toNat)
 case atStart => exact ⟨0, none, 0, Nat.zero_le _, rfl, rfl, ownSt_nil _ _, hB⟩
 case round =>
  obtain ⟨k, A', c', hk, rfl, rfl, ho, hB⟩ := hrel
  have hbs := hB.size
  have hdl : (deedL (l.take k)).length ≤ 12 := by rw [deedL_len, List.length_take]; omega
  by_cases hlt : k < l.length
  ·obtain ⟨bb, o, x, rfl, hbb, hx, e0, e1, e2⟩ := h.at_ hlt
   have f0 : wr.cell? ⟨bb, o + k * 3, none⟩ = some (.int .i64 x.x) := (hB.cell (p := ⟨bb, _, none⟩) hbb).trans e0
   have f1 : wr.cell? ⟨bb, o + k * 3 + 1, none⟩ = some (.int .i64 x.y) := (hB.cell (p := ⟨bb, _, none⟩) hbb).trans e1
   have f2 : wr.cell? ⟨bb, o + k * 3 + 2, none⟩ = some (.int .i64 x.z) := (hB.cell (p := ⟨bb, _, none⟩) hbb).trans e2
   clear e0 e1 e2
   have hlb : bb < wr.heap.size := by omega
   have hk0 : (0 : Int) ≤ (k : Int) := by omega
   have hk1 : (k : Int) < (l.length : Int) := by omega
   have HF := Lib.hid (fun W (h : Tab W) => RightText_any x.x x.y x.z W h)
   have HX := Lib.hid hx
   obtain ⟨tx, hte⟩ : ∃ tx, tx = rightText x.x x.y x.z := ⟨_, rfl⟩
   obtain ⟨ls, hls⟩ : ∃ ls, ls = deedL (l.take k) := ⟨_, rfl⟩
   rw [← hls] at ho hdl ⊢
   rw [← hte] at HF
   have HTE := Lib.hid hte
   have HLS := Lib.hid hls
   clear hx hte hls
   go_wp2_with fail
   have hr_q : Row2 wr w.heap.size wr.heap.size 9 1 A' ls.length c' (strs ls) := Row2.born ho
   clear ho
   first | refine name_world ?_ | refine name_wp ?_
   intro W1 hW
   replace hB : Below w.heap.size w W1 := by rw [hW]; exact tacT
   have hz_W1 : wr.heap.size ≤ W1.heap.size := by rw [hW]; exact sT
   replace kb_r : Blk W1 (wr.heap.size) 69 #[.int .i64 x.x, .int .i64 x.y, .int .i64 x.z] := by rw [hW]; exact blkT
   have hLW1_r := kb_r.lt
   replace hr_q : Row2 W1 (w.heap.size) (wr.heap.size) 9 1 A' (ls.length) c' (strs ls) := by rw [hW]; exact rowT
   try clear kc_r kf_r
   clear hW
   refine (HF.out _ (ht.below hB)).mono ?_
   rintro e w2 ⟨rfl, hb⟩
   replace hB := hB.trans (Below.mono hb hB.size)
   have hz_w2 : W1.heap.size ≤ w2.heap.size := Below.size hb
   replace kb_r := kb_r.mv hb; obtain ⟨kb_r, kc_r, kf_r, hl_r, hn_r⟩ := kb_r
   replace hr_q := Row2.below hr_q hb (by omega)
   clear hb
   have hbs := hB.size
   have ho1 : OwnSt (w2.alloc (.cells #[sv tx] 9)) w.heap.size A' c' ls := World.ownsRow.alloc hr_q.1 _
   go_wp2_with (at_builtin; refine wpList_appSt rfl _ _ rfl w.heap.size A' c' ls rfl ho1 w2.heap.size tx rfl (cell_new1 _ _ _) (by omega) (by exact oT) ?_)
   intro A3 c3 w3 ho3 hg3
   have hB3 := below_grown_own (hB.alloc hbs (.cells #[sv tx] 9)) ho1 hg3 (Nat.le_refl _) (by exact oT)
   have hsn := deedL_snoc HX.out
   rw [← HTE.out, ← HLS.out] at hsn
   rw [← hsn] at ho3
   have HSN := Lib.hid hsn
   have H3 := Lib.hid (And.intro ho3 hB3)
   clear ho3 hB3 hg3 ho1 hsn hr_q kb_r kc_r kf_r hl_r hn_r
   go_wp2_with fail
   go_roundw
   case rel => exact ⟨k + 1, A3, c3, by omega, by go_num, by rw [HSN.out, List.length_append]; rfl, H3.out⟩
   case measure => simp [intOf]; omega
  ·have hk1 : ¬ (k : Int) < (l.length : Int) := by omega
   obtain rfl : k = l.length := by omega
   rw [List.take_length] at ho hdl ⊢
   obtain ⟨b, o, rfl, hb0, hcl⟩ := (OwnSt.rd ho).at_ (k := 0) (by rw [deedL_len]; omega)
   have hjl := deedJ_len l
   have hcap : (deedL l).length ≤ c' := (OwnSt.rd ho).2.1
   have HJ : Hid (Calls Tryz.prog 55 #[.slice (some ⟨b, o, none⟩) (deedL l).length c', .string ⟨#[32]⟩] wr fun e w' => e = .returned (sv (Lib.join (deedL l) [32])) ∧ Below wr.heap.size wr w') := by
    have := Tryz.strings_Join b o c' ((deedL l).map fun x => (⟨x.toArray⟩ : ByteArray)) ⟨#[32]⟩ wr (fun j x hx => by
     rw [List.getElem?_map] at hx
     obtain ⟨y, hy, rfl⟩ := Option.map_eq_some_iff.1 hx
     exact hcl j y hy) hb0 (by rw [List.length_map]; omega) (by rw [List.length_map]; exact hcap) (by simp only [List.map_map, Function.comp_def, List.map_id']; omega)
    refine Lib.hid ?_
    simpa [List.map_map, Function.comp_def] using this
   clear hcl ho
   go_wp2_with fail
   refine HJ.out.mono ?_
   rintro e w2 ⟨rfl, hb⟩
   replace hB := hB.trans (Below.mono hb hB.size)
   have hz_w2 : wr.heap.size ≤ w2.heap.size := Below.size hb
   clear hb
   go_wp2_with fail
   go_ret
   exact ⟨by rw [HE.out]; rfl, hB⟩
end
section
open Go.RowKit
set_option maxRecDepth 20000
/-- "level a rained b drunk c lost d" -/
def fvHead (b : Bk) : List UInt8 := [108, 101, 118, 101, 108, 32] ++ Lib.itoa b.level ++ [32, 114, 97, 105, 110, 101, 100, 32] ++ Lib.itoa b.rained ++ [32, 100, 114, 117, 110, 107, 32] ++ Lib.itoa b.drunk ++ [32, 108, 111, 115, 116, 32] ++ Lib.itoa b.lost
def fvLine (v : Vg) (o : Int) : List UInt8 := Lib.itoa o ++ [32] ++ Lib.itoa (mayDrink v o)
def fvLines (v : Vg) (l : List T3) : List (List UInt8) := l.map fun e => fvLine v e.x
/-- The lines of a village's summary. -/
def fmtV (v : Vg) : List (List UInt8) := if villageOk v then [fvHead v.book, deedText v.rights] ++ fvLines v v.rights else []
theorem fmtV_no {v : Vg} (h : villageOk v = false) : fmtV v = [] := by unfold fmtV; rw [h]; rfl
theorem fmtV_yes {v : Vg} (h : villageOk v = true) : fmtV v = [fvHead v.book, deedText v.rights] ++ fvLines v v.rights := by unfold fmtV; rw [h]; rfl
theorem fvLines_len (v : Vg) (l : List T3) : (fvLines v l).length = l.length := by unfold fvLines; rw [List.length_map]
theorem fvLines_snoc {v : Vg} {l : List T3} {k : Nat} {e : T3} (h : l[k]? = some e) : fvLines v (l.take (k + 1)) = fvLines v (l.take k) ++ [fvLine v e.x] := by
 rw [take_snoc' h]; simp [fvLines]
theorem may_small (v : Vg) (o : Int) : -1 ≤ mayDrink v o ∧ mayDrink v o ≤ 1000000000000 := by
 have h1 := partOf_bd (shareOf v.rights o).1 (shareOf v.rights o).2 (min 1000000 (v.book.start + v.book.rained))
 have h2 := drunkBy_bd v.book o
 unfold mayDrink
 split
 ·split <;> omega
 ·omega
theorem deed_len9 {l : List T3} : (deedText l).length ≤ 1000 := by
 cases h : rightsOk l
 ·rw [deedText_no h]; simp
 ·rw [deedText_yes h]
  have h1 := deedJ_len l
  have h2 := rightsOk_len h
  omega
theorem fv_itoa {n : Int} (h : -1000000000 ≤ n ∧ n ≤ 1000000000000) : (Lib.itoa n).length ≤ 20 := itoa_len (by omega) (by omega)
theorem vg_both {v : Vg} (h : villageOk v = true) : bookOk v.book = true ∧ rightsOk v.rights = true := by
 unfold villageOk at h
 simpa using h
end
section
open Go.RowKit
set_option maxRecDepth 20000
def blank (x : List UInt8) : Bool := sfOk x && decide ((sfX x).length = 0)
/-- The lines read one by one, at most forty acts. -/
def rsGo : List (List UInt8) → List T3 → Option (List T3)
 | [], a => some a
 |x :: ls, a => if blank x then rsGo ls a else if paI x && decide (a.length ≠ 40) then rsGo ls (a ++ [paX x]) else none
theorem rsGo_skip {x : List UInt8} (h : blank x = true) (ls : List (List UInt8)) (a : List T3) : rsGo (x :: ls) a = rsGo ls a := by rw [rsGo, if_pos h]
theorem rsGo_take {x : List UInt8} (h : blank x = false) (h1 : paI x = true) {a : List T3} (h2 : a.length ≠ 40) (ls : List (List UInt8)) : rsGo (x :: ls) a = rsGo ls (a ++ [paX x]) := by
 rw [rsGo, h, if_neg (by simp), h1, decide_eq_true h2]; rfl
theorem rsGo_bad {x : List UInt8} (h : blank x = false) (h1 : paI x = false) (ls : List (List UInt8)) (a : List T3) : rsGo (x :: ls) a = none := by
 rw [rsGo, h, if_neg (by simp), h1]; rfl
theorem rsGo_full {x : List UInt8} (h : blank x = false) {a : List T3} (h2 : a.length = 40) (ls : List (List UInt8)) : rsGo (x :: ls) a = none := by
 rw [rsGo, h, if_neg (by simp), decide_eq_false (show ¬ a.length ≠ 40 by omega), Bool.and_false]; rfl
def rcL (t : List UInt8) : List (List UInt8) := spl 10 [] t
theorem spl_count9 (c : UInt8) : ∀ (s cur : List UInt8), (spl c cur s).length ≤ s.length + 1
 | [], _ => by rw [spl_nil]; simp
 |b :: s, cur => by
  rw [spl]
  split
  ·have := spl_count9 c s []
   simp; omega
  ·have := spl_count9 c s (cur ++ [b])
   simp; omega
theorem rcL_len (t : List UInt8) : (rcL t).length ≤ t.length + 1 := spl_count9 10 t []
/-- The acts of a script. -/
def rcA (t : List UInt8) : Option (List T3) := if t.length ≤ 20000 then rsGo (rcL t) [] else none
def sv0 : Vg := newV 200 100 1
theorem sv0_ok : villageOk sv0 = true := by decide +kernel
def outOf (acts : List T3) : List (List UInt8) := (runActs sv0 acts).2.map Lib.itoa ++ fmtV (runActs sv0 acts).1
def rcI (t : List UInt8) : Bool := (rcA t).isSome
/-- What running a script yields. -/
def rcX (t : List UInt8) : List (List UInt8) := match rcA t with
 |none => []
 |some acts => outOf acts
theorem rs_long {t : List UInt8} (h : 20000 < t.length) : rcX t = [] ∧ rcI t = false := by
 have : rcA t = none := by unfold rcA; rw [if_neg (by omega)]
 exact ⟨by unfold rcX; rw [this], by unfold rcI; rw [this]; rfl⟩
theorem rs_no {t : List UInt8} (hl : t.length ≤ 20000) (h : rsGo (rcL t) [] = none) : rcX t = [] ∧ rcI t = false := by
 have : rcA t = none := by unfold rcA; rw [if_pos hl, h]
 exact ⟨by unfold rcX; rw [this], by unfold rcI; rw [this]; rfl⟩
theorem rs_yes {t : List UInt8} {acts : List T3} (hl : t.length ≤ 20000) (h : rsGo (rcL t) [] = some acts) : rcX t = outOf acts ∧ rcI t = true := by
 have : rcA t = some acts := by unfold rcA; rw [if_pos hl, h]
 exact ⟨by unfold rcX; rw [this], by unfold rcI; rw [this]; rfl⟩
theorem fmtV_len9 (v : Vg) : (fmtV v).length ≤ 14 := by
 cases h : villageOk v
 ·rw [fmtV_no h]; simp
 ·rw [fmtV_yes h, List.length_append, fvLines_len]
  have := (rights_facts (vg_both h).2).1
  simp; omega
theorem sv0_nums {acts : List T3} (h : acts.length ≤ 40) : (runActs sv0 acts).2.length = acts.length ∧ (∀ n ∈ (runActs sv0 acts).2, -1 ≤ n ∧ n ≤ 100000000000) ∧ villageOk (runActs sv0 acts).1 = true :=
 ⟨(run_keeps sv0_ok h).2, run_nums sv0_ok h, (run_keeps sv0_ok h).1⟩
/-! The text of acts, read back. -/
theorem act_no10 {k a b : Int} (h : actOk k a b = true) : ∀ c ∈ actText k a b, c ≠ (10 : UInt8) := by
 intro c hc e
 have := List.all_eq_true.1 (act_pchar h) c hc
 rw [e] at this
 exact absurd this (by decide)
theorem rcL_scr : ∀ l : List T3, (∀ a ∈ l, actOk a.x a.y a.z = true) → rcL (scText l) = l.map (fun e => actText e.x e.y e.z) ++ [[]]
 | [], _ => rfl
 |e :: l, h => by
  have e1 : scText (e :: l) = actText e.x e.y e.z ++ 10 :: scText l := by
   show (actText e.x e.y e.z ++ [10]) ++ scText l = _
   simp
  unfold rcL
  rw [e1, spl_cut 10 _ _ _ (act_no10 (h e List.mem_cons_self))]
  have := rcL_scr l (fun a ha => h a (List.mem_cons_of_mem _ ha))
  unfold rcL at this
  rw [this]
  rfl
theorem blank_nil : blank [] = true := by rfl
theorem rsGo_scr : ∀ (l a : List T3), (∀ e ∈ l, actOk e.x e.y e.z = true) → a.length + l.length ≤ 40 → rsGo (l.map (fun e => actText e.x e.y e.z) ++ [[]]) a = some (a ++ l)
 | [], a, _, _ => by
  rw [List.map_nil, List.nil_append, rsGo_skip blank_nil, List.append_nil]; rfl
 |e :: l, a, h, hl => by
  have hp := pa_plain (h e List.mem_cons_self)
  rw [List.length_cons] at hl
  have hb : blank (actText e.x e.y e.z) = false := by
   unfold blank
   rw [decide_eq_false (fun h9 => hp.2.2 (List.eq_nil_of_length_eq_zero h9)), Bool.and_false]
  rw [List.map_cons, List.cons_append, rsGo_take hb hp.1 (by omega), rsGo_scr l _ (fun x hx => h x (List.mem_cons_of_mem _ hx)) (by rw [List.length_append, List.length_singleton]; omega), hp.2.1]
  simp
theorem rs_script {l : List T3} (h : ∀ e ∈ l, actOk e.x e.y e.z = true) (hl : l.length ≤ 40) : rcX (scText l) = outOf l ∧ rcI (scText l) = true := by
 have h1 := scText_len l
 refine rs_yes (by omega) ?_
 rw [rcL_scr l h, rsGo_scr l [] h (by simpa using hl)]
 rfl
theorem sc_ok {l : List T3} (h : ∀ e ∈ l, actOk e.x e.y e.z = true) (hl : l.length ≤ 40) : scriptOk l = true ∧ scriptText l = scText l := by
 have h1 : scriptOk l = true := by
  unfold scriptOk actsOk
  rw [decide_eq_true hl, List.all_eq_true.2 h]; rfl
 exact ⟨h1, script_yes h1⟩
end
section
open Go.RowKit
set_option maxRecDepth 20000
theorem ext_b (t : List UInt8) (b k : Nat) : (⟨t.toArray⟩ : ByteArray).extract b k = ⟨((t.take k).drop b).toArray⟩ := by
 apply ByteArray.ext
 rw [ByteArray.data_extract]
 simp [List.drop_take]
end
end Go.Proofs.YtpmmjhpmheooeaaGreatDoor
