/- ScriptText: both sides. -/
import Derived.Test.YtnedbdpcimhfgaaDoorFormatAct
import Derived.Test.YtnedbdpcimhfgaaDoorTo3A
import Derived.Lib.AppendStr
namespace Go.Proofs.YtnedbdpcimhfgaaDoor
open Go.RowKit
set_option maxRecDepth 20000
def u8s (l : List UInt8) : List Value := l.map fun b => Value.int .u8 b.toNat
theorem u8s_len (l : List UInt8) : (u8s l).length = l.length := by simp [u8s]
def OwnU (w : World) (base : Nat) (g c : Nat) (l : List UInt8) : Prop := w.ownsRow base 5 1 (.slice (some ⟨g, 0, none⟩) l.length c) l.length (u8s l)
theorem infoU8 : (Tryd.prog.info? 5).map (fun i => (i.zero, i.size, i.bytes)) = some (some (.int .u8 0), 1, 1) := by kernel_rfl
theorem u8s_app (l m : List UInt8) : u8s (l ++ m) = u8s l ++ u8s m := by simp [u8s]
theorem strCells_u8s (m : List UInt8) : Lib.strCells ⟨m.toArray⟩ = u8s m := by simp [Lib.strCells, u8s]
theorem wpList_appStr {w : World} {ops : Array Oper} {rest : List Oper} {o : Oper} {a : _root_.Go.Act} {Q : Exit → _root_.Go.Act → World → Prop} (hgd : o.guard = none) (s x : Operand)
    (ho : o.op = .call { callee := .builtin .append, args := #[s, x], argTypes := #[54, 9] })
    (base g c : Nat) (l m : List UInt8) (hs : a.eval s = .slice (some ⟨g, 0, none⟩) l.length c) (hown : OwnU w base g c l) (hx : a.eval x = sv m)
    (hsm : l.length + m.length ≤ 1000000) (hbase : base ≤ w.heap.size)
    (h : ∀ g' c' w', OwnU w' base g' c' (l ++ m) → w.grownBy w' (some g) → wpList Tryd.prog ops Q rest (a.put o.dst (.slice (some ⟨g', 0, none⟩) (l.length + m.length) c')) w') : wpList Tryd.prog ops Q (o :: rest) a w := by
  obtain ⟨i, hi, hz, hsize, hby⟩ := info_parts infoU8
  have hsz : (⟨m.toArray⟩ : ByteArray).size = m.length := by simp [ByteArray.size]
  refine Lib.wpList_append_own_string w hgd s x 54 9 ho base 5 i Tryd.underlying54 Tryd.underlying9 hi hz hsize hby _ l.length (u8s l) hs hown ⟨m.toArray⟩ hx
    (by rw [hsz]; unfold maxLen; omega) (by rw [hsz]; omega) hbase ?_
  intro v' w' h1 h2 h3
  rw [hsz, strCells_u8s, ← u8s_app] at h1
  have hnn : v' ≠ .slice none 0 0 := fun e => by have := (h3.1 e).1; cases this
  rcases h1.2 with ⟨e, _⟩ | ⟨g', cap, cur, rfl, _⟩
  · exact absurd e hnn
  · refine h g' cap w' ?_ h2
    unfold OwnU
    rw [List.length_append]
    exact h1
theorem OwnU.ge {w : World} {base g c : Nat} {l : List UInt8} (h : OwnU w base g c l) : base ≤ g ∧ g < w.heap.size := World.ownsRow.lt h g rfl
theorem OwnU.conv {w : World} {base g c : Nat} {l : List UInt8} (h : OwnU w base g c l) : (convert 54 9 (.slice (some ⟨g, 0, none⟩) l.length c)).run Tryd.prog w = .ok (sv l) w :=
  run_convert_bytes_back _ _ _ 5 ⟨g, 0, none⟩ c l Tryd.underlying54 Tryd.underlying5 Tryd.underlying9 (fun j hj => by
    have := World.ownsRow.cells h (g := g) rfl j _ (show (u8s l)[j]? = some (.int .u8 (l[j].toNat)) by simp [u8s, hj])
    exact this)
def actsOk (l : List T3) : Bool := l.all fun e => actOk e.x e.y e.z
def scText (l : List T3) : List UInt8 := l.flatMap fun e => actText e.x e.y e.z ++ [10]
def scriptOk (l : List T3) : Bool := decide (l.length ≤ 40) && actsOk l
def scriptText (l : List T3) : List UInt8 := if scriptOk l then scText l else []
theorem actText_len (k a b : Int) : (actText k a b).length ≤ 50 := by
  cases hk : actOk k a b
  · rw [actText_no hk]; simp
  · obtain ⟨_, h1, h2, h3, h4⟩ := actOk_cases hk
    have := act_len ⟨h1, h2⟩
    have := act_len ⟨h3, h4⟩
    have hw : (actWord k).length ≤ 5 := by unfold actWord; repeat' split
                                           all_goals decide
    cases h2' : actTwo k
    · rw [actText_one hk h2', List.length_append, List.length_cons]; omega
    · rw [actText_two hk h2', List.length_append, List.length_cons, List.length_append, List.length_cons]; omega
theorem scText_len : ∀ l : List T3, (scText l).length ≤ l.length * 51
  | [] => by simp [scText]
  | e :: l => by
    have h1 := scText_len l
    have h2 := actText_len e.x e.y e.z
    have : scText (e :: l) = (actText e.x e.y e.z ++ [10]) ++ scText l := rfl
    rw [this, List.length_append, List.length_append, List.length_cons]
    simp only [List.length_cons, List.length_nil]
    omega
theorem take_snoc {l : List T3} {k : Nat} {e : T3} (h : l[k]? = some e) : l.take (k + 1) = l.take k ++ [e] := by
  rw [List.take_add_one, h]; rfl
theorem scText_snoc {l : List T3} {k : Nat} {e : T3} (h : l[k]? = some e) : scText (l.take (k + 1)) = scText (l.take k) ++ (actText e.x e.y e.z ++ [10]) := by
  rw [take_snoc h]; simp [scText]
theorem actsOk_snoc {l : List T3} {k : Nat} {e : T3} (h : l[k]? = some e) : actsOk (l.take (k + 1)) = (actsOk (l.take k) && actOk e.x e.y e.z) := by
  rw [take_snoc h]; simp [actsOk]
theorem actsOk_not {l : List T3} {k : Nat} {e : T3} (h : l[k]? = some e) (hk : actOk e.x e.y e.z = false) : scriptOk l = false := by
  unfold scriptOk actsOk
  have : l.all (fun e => actOk e.x e.y e.z) = false := by
    rw [List.all_eq_false]
    exact ⟨e, List.mem_of_getElem? h, by rw [hk]; simp⟩
  rw [this]; simp
theorem scriptOk_big {l : List T3} (h : 40 < l.length) : scriptOk l = false := by
  unfold scriptOk; rw [decide_eq_false (by omega)]; rfl
theorem scriptOk_yes {l : List T3} (h : l.length ≤ 40) (h2 : actsOk (l.take l.length) = true) : scriptOk l = true := by
  unfold scriptOk; rw [List.take_length] at h2; rw [decide_eq_true h, h2]; rfl
theorem script_no {l : List T3} (h : scriptOk l = false) : scriptText l = [] := by unfold scriptText; rw [h]; rfl
theorem script_yes {l : List T3} (h : scriptOk l = true) : scriptText l = scText l := by unfold scriptText; rw [h]; rfl
theorem sv_line (a b : List UInt8) : Value.string (⟨a.toArray⟩ ++ (⟨b.toArray⟩ ++ ⟨#[10]⟩)) = sv (a ++ (b ++ [10])) := by
  refine congrArg _ (ByteArray.ext ?_)
  simp
theorem sv_nl (b : List UInt8) : Value.string (⟨b.toArray⟩ ++ ⟨#[10]⟩) = sv (b ++ [10]) := by
  refine congrArg _ (ByteArray.ext ?_)
  simp
set_option maxHeartbeats 3200000 in
theorem ScriptText_any (A : Option Addr) (c : Nat) (l : List T3) (w : World) (h : RdT w w.heap.size A c l) (ht : Tab w) :
    Calls Tryd.prog 15 #[.slice A l.length c] w fun e w' => e = .returned (.tuple #[sv (scriptText l), .bool (scriptOk l)]) ∧ Below w.heap.size w w' := by
  obtain ⟨hl, hm⟩ := h.le
  have hB := Below.refl w.heap.size w
  by_cases hbig : 40 < l.length
  · have HK := Lib.hid (scriptOk_big hbig)
    have HE := Lib.hid (script_no HK.out)
    have g1 : (40 : Int) < (l.length : Int) := by omega
    go_enter Tryd.func15, Tryd.ntmps15
    go_wp2_with fail
    exact bodyPost_ret (v := .tuple #[sv [], .bool false]) (by simp [results, Tryd.results15, go_sem]) rfl ⟨by rw [HE.out, HK.out], hB⟩
  have g1 : ¬ (40 : Int) < (l.length : Int) := by omega
  go_enter Tryd.func15, Tryd.ntmps15
  go_wp2_with fail
  go_loopw [4, 14] (fun s i wr => ∃ (k : Nat), k ≤ l.length ∧ i = .int .i64 k ∧ s = sv (scText (l.take k)) ∧ Hid (actsOk (l.take k) = true) ∧ Below w.heap.size w wr) (fun _ i _ => l.length - (intOf i).toNat)
  case atStart => exact ⟨0, Nat.zero_le _, rfl, by simp [scText], (by show actsOk (l.take 0) = true; simp [actsOk]), Below.refl _ _⟩
  case round =>
    obtain ⟨k, hk, rfl, rfl, HA, hB⟩ := hrel
    have hbs := hB.size
    have htl : (scText (l.take k)).length ≤ 40 * 51 := by
      have h1 := scText_len (l.take k)
      have h2 : (l.take k).length ≤ 40 := by rw [List.length_take]; omega
      omega
    by_cases hlt : k < l.length
    · obtain ⟨bb, o, x, rfl, hbb, hx, e0, e1, e2⟩ := h.at_ hlt
      have f0 : wr.cell? ⟨bb, o + k * 3, none⟩ = some (.int .i64 x.x) := (hB.cell (p := ⟨bb, _, none⟩) hbb).trans e0
      have f1 : wr.cell? ⟨bb, o + k * 3 + 1, none⟩ = some (.int .i64 x.y) := (hB.cell (p := ⟨bb, _, none⟩) hbb).trans e1
      have f2 : wr.cell? ⟨bb, o + k * 3 + 2, none⟩ = some (.int .i64 x.z) := (hB.cell (p := ⟨bb, _, none⟩) hbb).trans e2
      clear e0 e1 e2
      have hlb : bb < wr.heap.size := by omega
      have hk0 : (0 : Int) ≤ (k : Int) := by omega
      have hk1 : (k : Int) < (l.length : Int) := by omega
      have HF := Lib.hid (fun W (h : Tab W) => FormatAct_any x.x x.y x.z W h)
      have htx := actText_len x.x x.y x.z
      obtain ⟨tx, hte⟩ : ∃ tx, tx = actText x.x x.y x.z := ⟨_, rfl⟩
      obtain ⟨ta, htae⟩ : ∃ ta, ta = scText (l.take k) := ⟨_, rfl⟩
      rw [← htae] at htl ⊢
      have HTA := Lib.hid htae
      have HT := Lib.hid (ht.below hB)
      have c1 : ¬ 9223372036854775807 < tx.length + 1 := by rw [hte]; omega
      have c2 : ¬ 9223372036854775807 < ta.length + (tx.length + 1) := by rw [hte]; omega
      have HX := Lib.hid hx
      rw [← hte] at HF htx
      have HTE := Lib.hid hte
      clear hx hte htae
      cases hok : actOk x.x x.y x.z
      · rw [hok] at HF
        have HK := Lib.hid (actsOk_not HX.out hok)
        have HE := Lib.hid (script_no HK.out)
        clear hok
        go_wp2_with fail
        first | refine name_world ?_ | refine name_wp ?_
        intro W1 hW
        replace hB : Below w.heap.size w W1 := by rw [hW]; repeat' (first | (with_reducible exact Below.refl _ _) | (with_reducible assumption) | (with_reducible refine Below.alloc ?_ ?_ _) | (with_reducible refine Below.setCell ?_ ?_ _) | (with_reducible refine Below.drew ?_) | (with_reducible refine below_drewN ?_ _) | (refine Below.trans ?_ (Below.mono (by with_reducible assumption) ?_)) | omega | (simp; done) | (simp; omega))
        have hz_W1 : wr.heap.size ≤ W1.heap.size := by rw [hW]; first | (simp; done) | (simp; omega)
        replace kb_r : Blk W1 (wr.heap.size) 36 #[.int .i64 x.x, .int .i64 x.y, .int .i64 x.z] := by rw [hW]; repeat' (first | (with_reducible assumption) | (with_reducible refine Blk.drew ?_) | (with_reducible refine Blk.drewN ?_ _) | (with_reducible refine Blk.new' _ _ _ _ ?_; (first | rfl | omega | (simp; done))) | (with_reducible exact Blk.new _ _ _) | (with_reducible refine Blk.alloc ?_ _) | (with_reducible apply Blk.set8) | (with_reducible apply Blk.set7of8) | (with_reducible apply Blk.setlast8) | (with_reducible apply Blk.set7) | (with_reducible apply Blk.set2) | (with_reducible apply Blk.set3) | (with_reducible refine Blk.far ?_ ?_ _) | (simp; done) | (simp; omega) | (dsimp only; omega))
        have hLW1_r := kb_r.lt
        try clear kc_r kf_r
        clear hW
        refine (HF.out _ (ht.below hB)).mono ?_
        rintro e w2 ⟨rfl, hb⟩
        replace hB := hB.trans (Below.mono hb hB.size)
        have hz_w2 : W1.heap.size ≤ w2.heap.size := Below.size hb
        replace kb_r := Blk.below kb_r hb (by first | exact kb_r.lt | (have := kb_r.lt; omega))
        have kc_r := kb_r.cells
        have kf_r := kb_r.frozens
        have hl_r := kb_r.lt
        have hn_r := Nat.ne_of_lt kb_r.lt
        clear hb
        go_wp2_with fail
        exact bodyPost_ret (v := .tuple #[sv [], .bool false]) (by simp [results, Tryd.results15, go_sem]) rfl ⟨by rw [HE.out, HK.out], hB⟩
      · rw [hok] at HF
        have HN : Hid (actsOk (l.take (k + 1)) = true) := by show _ = _; rw [actsOk_snoc HX.out, HA.out, hok]; rfl
        clear hok
        go_wp2_with fail
        first | refine name_world ?_ | refine name_wp ?_
        intro W1 hW
        replace hB : Below w.heap.size w W1 := by rw [hW]; repeat' (first | (with_reducible exact Below.refl _ _) | (with_reducible assumption) | (with_reducible refine Below.alloc ?_ ?_ _) | (with_reducible refine Below.setCell ?_ ?_ _) | (with_reducible refine Below.drew ?_) | (with_reducible refine below_drewN ?_ _) | (refine Below.trans ?_ (Below.mono (by with_reducible assumption) ?_)) | omega | (simp; done) | (simp; omega))
        have hz_W1 : wr.heap.size ≤ W1.heap.size := by rw [hW]; first | (simp; done) | (simp; omega)
        replace kb_r : Blk W1 (wr.heap.size) 36 #[.int .i64 x.x, .int .i64 x.y, .int .i64 x.z] := by rw [hW]; repeat' (first | (with_reducible assumption) | (with_reducible refine Blk.drew ?_) | (with_reducible refine Blk.drewN ?_ _) | (with_reducible refine Blk.new' _ _ _ _ ?_; (first | rfl | omega | (simp; done))) | (with_reducible exact Blk.new _ _ _) | (with_reducible refine Blk.alloc ?_ _) | (with_reducible apply Blk.set8) | (with_reducible apply Blk.set7of8) | (with_reducible apply Blk.setlast8) | (with_reducible apply Blk.set7) | (with_reducible apply Blk.set2) | (with_reducible apply Blk.set3) | (with_reducible refine Blk.far ?_ ?_ _) | (simp; done) | (simp; omega) | (dsimp only; omega))
        have hLW1_r := kb_r.lt
        try clear kc_r kf_r
        clear hW
        refine (HF.out _ (ht.below hB)).mono ?_
        rintro e w2 ⟨rfl, hb⟩
        replace hB := hB.trans (Below.mono hb hB.size)
        have hz_w2 : W1.heap.size ≤ w2.heap.size := Below.size hb
        replace kb_r := Blk.below kb_r hb (by first | exact kb_r.lt | (have := kb_r.lt; omega))
        have kc_r := kb_r.cells
        have kf_r := kb_r.frozens
        have hl_r := kb_r.lt
        have hn_r := Nat.ne_of_lt kb_r.lt
        clear hb
        go_wp2_with fail
        go_roundw
        case rel => exact ⟨k + 1, by omega, by go_num, by rw [scText_snoc HX.out, ← HTA.out, ← HTE.out]; exact sv_line _ _, HN, by repeat' (first | (with_reducible exact Below.refl _ _) | (with_reducible assumption) | (with_reducible refine Below.alloc ?_ ?_ _) | (with_reducible refine Below.setCell ?_ ?_ _) | (with_reducible refine Below.drew ?_) | (with_reducible refine below_drewN ?_ _) | (refine Below.trans ?_ (Below.mono (by with_reducible assumption) ?_)) | omega | (simp; done) | (simp; omega))⟩
        case measure => simp [intOf]; omega
    · have hk1 : ¬ (k : Int) < (l.length : Int) := by omega
      obtain rfl : k = l.length := by omega
      have HK := Lib.hid (scriptOk_yes (by omega) HA.out)
      have HE : Hid (sv (scText (l.take l.length)) = sv (scriptText l)) := by show _ = _; rw [script_yes HK.out, List.take_length]
      go_wp2_with fail
      exact bodyPost_ret (v := .tuple #[sv (scText (l.take l.length)), .bool true]) (by simp [results, Tryd.results15, go_sem]) rfl ⟨by rw [HE.out, HK.out], hB⟩
set_option maxHeartbeats 3200000 in
theorem ScriptTextS_any (A : Option Addr) (c : Nat) (l : List T3) (w : World) (h : RdT w w.heap.size A c l) (ht : Tab w) :
    Calls Tryd.prog 13 #[.slice A l.length c] w fun e w' => e = .returned (.tuple #[sv (scriptText l), .bool (scriptOk l)]) ∧ Below w.heap.size w w' := by
  obtain ⟨hl, hm⟩ := h.le
  have hB := Below.refl w.heap.size w
  go_enter Tryd.func13, Tryd.ntmps13
  go_wp2_with fail
  go_loopw [4, 5] (fun v i wr => ∃ (k g' c' : Nat), k ≤ l.length ∧ i = .int .i64 k ∧ v = .slice (some ⟨g', 0, none⟩) (scText (l.take k)).length c' ∧ OwnU wr w.heap.size g' c' (scText (l.take k)) ∧ Hid (actsOk (l.take k) = true) ∧ (k ≤ 40 ∨ l.length ≤ 40) ∧ Below w.heap.size w wr) (fun _ i _ => l.length - (intOf i).toNat)
  case atStart => exact ⟨0, w.heap.size, 0, Nat.zero_le _, rfl, by simp [scText], by simpa [scText, OwnU, u8s] using ownEmpty w w.heap.size 5 1 (Nat.le_refl _), (by show actsOk (l.take 0) = true; simp [actsOk]), .inl (Nat.zero_le _), by repeat' (first | (with_reducible exact Below.refl _ _) | (with_reducible assumption) | (with_reducible refine Below.alloc ?_ ?_ _) | (with_reducible refine Below.setCell ?_ ?_ _) | (with_reducible refine Below.drew ?_) | (with_reducible refine below_drewN ?_ _) | (refine Below.trans ?_ (Below.mono (by with_reducible assumption) ?_)) | omega | (simp; done) | (simp; omega))⟩
  case round =>
    obtain ⟨k, g', c', hk, rfl, rfl, ho, HA, hk40, hB⟩ := hrel
    have hbs := hB.size
    have hlen := OwnU.ge ho
    by_cases hlt : k < l.length
    · obtain ⟨bb, o, x, rfl, hbb, hx, e0, e1, e2⟩ := h.at_ hlt
      have f0 : wr.cell? ⟨bb, o + k * 3, none⟩ = some (.int .i64 x.x) := (hB.cell (p := ⟨bb, _, none⟩) hbb).trans e0
      have f1 : wr.cell? ⟨bb, o + k * 3 + 1, none⟩ = some (.int .i64 x.y) := (hB.cell (p := ⟨bb, _, none⟩) hbb).trans e1
      have f2 : wr.cell? ⟨bb, o + k * 3 + 2, none⟩ = some (.int .i64 x.z) := (hB.cell (p := ⟨bb, _, none⟩) hbb).trans e2
      clear e0 e1 e2
      have hlb : bb < wr.heap.size := by omega
      have hk0 : (0 : Int) ≤ (k : Int) := by omega
      have hk1 : (k : Int) < (l.length : Int) := by omega
      have HF := Lib.hid (fun W (h : Tab W) => FormatActS_any x.x x.y x.z W h)
      have htx := actText_len x.x x.y x.z
      obtain ⟨tx, hte⟩ : ∃ tx, tx = actText x.x x.y x.z := ⟨_, rfl⟩
      have htl : (scText (l.take k)).length ≤ 41 * 51 := by
        have h1 := scText_len (l.take k)
        have h2 : (l.take k).length ≤ 41 := by rw [List.length_take]; omega
        omega
      obtain ⟨ta, htae⟩ : ∃ ta, ta = scText (l.take k) := ⟨_, rfl⟩
      rw [← htae] at htl ho ⊢
      have HTA := Lib.hid htae
      have c1 : ¬ 9223372036854775807 < tx.length + 1 := by rw [hte]; omega
      have HX := Lib.hid hx
      rw [← hte] at HF htx
      have HTE := Lib.hid hte
      clear hx hte htae
      cases hok : actOk x.x x.y x.z
      · rw [hok] at HF
        have HK := Lib.hid (actsOk_not HX.out hok)
        have HE := Lib.hid (script_no HK.out)
        clear hok
        go_wp2_with fail
        refine (HF.out _ (ht.below hB)).mono ?_
        rintro e w2 ⟨rfl, hb⟩
        replace hB := hB.trans (Below.mono hb hB.size)
        have hz_w2 : wr.heap.size ≤ w2.heap.size := Below.size hb
        clear hb
        go_wp2_with fail
        exact bodyPost_ret (v := .tuple #[sv [], .bool false]) (by simp [results, Tryd.results13, go_sem]) rfl ⟨by rw [HE.out, HK.out], hB⟩
      · rw [hok] at HF
        by_cases hbig : 40 < l.length
        · have HK := Lib.hid (scriptOk_big hbig)
          have HE := Lib.hid (script_no HK.out)
          have g1 : (40 : Int) < (l.length : Int) := by omega
          have g2 : decide ((40 : Int) < (l.length : Int)) = true := by simpa using g1
          have g3 : decide (40 < l.length) = true := by simpa using hbig
          clear hok
          go_wp2_with fail
          refine (HF.out _ (ht.below hB)).mono ?_
          rintro e w2 ⟨rfl, hb⟩
          replace hB := hB.trans (Below.mono hb hB.size)
          have hz_w2 : wr.heap.size ≤ w2.heap.size := Below.size hb
          clear hb
          go_wp2_with fail
          exact bodyPost_ret (v := .tuple #[sv [], .bool false]) (by simp [results, Tryd.results13, go_sem]) rfl ⟨by rw [HE.out, HK.out], hB⟩
        · have HN : Hid (actsOk (l.take (k + 1)) = true) := by show _ = _; rw [actsOk_snoc HX.out, HA.out, hok]; rfl
          have g1 : ¬ (40 : Int) < (l.length : Int) := by omega
          have g2 : decide ((40 : Int) < (l.length : Int)) = false := by simpa using g1
          have g3 : decide (40 < l.length) = false := by simpa using hbig
          clear hok
          go_wp2_with fail
          refine (HF.out _ (ht.below hB)).mono ?_
          rintro e w2 ⟨rfl, hb⟩
          have ho2 : OwnU w2 w.heap.size g' c' ta := own_below ho hb (Nat.le_refl _)
          replace hB := hB.trans (Below.mono hb hB.size)
          have hz_w2 : wr.heap.size ≤ w2.heap.size := Below.size hb
          clear hb
          go_wp2_with (at_builtin; rw [sv_nl tx]; refine wpList_appStr rfl _ _ rfl w.heap.size g' c' ta (tx ++ [10]) rfl ho2 rfl (by simp; omega) hB.size ?_)
          intro g3' c3 w3 ho3 hg3
          have hB3 := hB.grown hg3 hB.size (fun k hk => by have hk2 : g' = k := Option.some.inj hk; omega)
          rw [HTA.out, HTE.out, ← scText_snoc HX.out] at ho3
          have HO := Lib.hid ho3
          go_wp2_with fail
          go_roundw
          case rel => exact ⟨k + 1, g3', c3, by omega, by go_num, by rw [scText_snoc HX.out, ← HTA.out, ← HTE.out]; simp, HO.out, HN, .inr (by omega), hB3⟩
          case measure => simp [intOf]; omega
    · have hk1 : ¬ (k : Int) < (l.length : Int) := by omega
      obtain rfl : k = l.length := by omega
      have HK := Lib.hid (scriptOk_yes (by omega) HA.out)
      have HE : Hid (sv (scText (l.take l.length)) = sv (scriptText l)) := by show _ = _; rw [script_yes HK.out, List.take_length]
      rw [List.take_length] at ho HE ⊢
      have hcv := OwnU.conv ho
      go_wp2_with fail
      exact bodyPost_ret (v := .tuple #[sv (scText l), .bool true]) (by simp [results, Tryd.results13, go_sem]) rfl ⟨by rw [HE.out, HK.out], hB⟩
end Go.Proofs.YtnedbdpcimhfgaaDoor
