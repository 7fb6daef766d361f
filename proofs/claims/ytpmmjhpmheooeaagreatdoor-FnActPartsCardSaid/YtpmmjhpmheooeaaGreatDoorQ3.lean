/- Texts of the proof, joined: Book. -/
import Derived.Test.YtpmmjhpmheooeaaGreatDoorQ0
import Derived.Test.YtpmmjhpmheooeaaGreatDoorQ2
import Derived.Deep.RegionHeld3
import Derived.Deep.DeepCutAuto
import Derived.StillTailTactics
namespace Go.Proofs.YtpmmjhpmheooeaaGreatDoor
set_option linter.unusedSimpArgs false
set_option linter.unusedVariables false
section
open Go.RowKit
theorem infoEv : (Tryz.prog.info? 120).map (fun i => (i.zero, i.size, i.bytes)) = some (some (.agg #[.int .i64 0, .int .i64 0, .int .i64 0]), 3, 24) := by kernel_rfl
/-- What a list of events makes of level, rained, drunk and lost; false as soon as one fails. -/
def runEv (room : Int) : List T3 → Int → Int → Int → Int → Int × Int × Int × Int × Bool
 | [], v, r, d, l => (v, r, d, l, true)
 |e :: es, v, r, d, l => if (evOn v room e.x e.y e.z).2.2.2.2 then runEv room es (evOn v room e.x e.y e.z).1 (r + (evOn v room e.x e.y e.z).2.1) (d + (evOn v room e.x e.y e.z).2.2.1) (l + (evOn v room e.x e.y e.z).2.2.2.1) else (v, r, d, l, false)
theorem runEv_cons (room : Int) (e : T3) (es : List T3) (v r d l : Int) : runEv room (e :: es) v r d l = if (evOn v room e.x e.y e.z).2.2.2.2 then runEv room es (evOn v room e.x e.y e.z).1 (r + (evOn v room e.x e.y e.z).2.1) (d + (evOn v room e.x e.y e.z).2.2.1) (l + (evOn v room e.x e.y e.z).2.2.2.1) else (v, r, d, l, false) := rfl
theorem evOn_bounds (v room k l o : Int) (h : (evOn v room k l o).2.2.2.2 = true) : 0 ≤ (evOn v room k l o).2.1 ∧ (evOn v room k l o).2.1 ≤ 1000000 ∧ 0 ≤ (evOn v room k l o).2.2.1 ∧ (evOn v room k l o).2.2.1 ≤ 1000000 ∧ 0 ≤ (evOn v room k l o).2.2.2.1 ∧ (evOn v room k l o).2.2.2.1 ≤ 1000000 := by
 unfold evOn at h ⊢
 by_cases hb : (!(inB room 1 1000000 && inB v 0 room && inB l 0 1000000)) = true
 ·rw [if_pos hb] at h; cases h
 ·rw [if_neg hb] at h ⊢
  simp [inB] at hb
  by_cases h1 : k = 1 ∧ o = 0
  ·rw [if_pos h1]; refine ⟨?_, ?_, ?_, ?_, ?_, ?_⟩ <;> simp only [] <;> omega
  ·rw [if_neg h1] at h ⊢
   by_cases h2 : k = 2 ∧ (1 ≤ o ∧ o ≤ 999) ∧ l ≤ v
   ·rw [if_pos h2]; refine ⟨?_, ?_, ?_, ?_, ?_, ?_⟩ <;> simp only [] <;> omega
   ·rw [if_neg h2] at h ⊢
    by_cases h3 : k = 3 ∧ o = 0 ∧ l ≤ v
    ·rw [if_pos h3]; refine ⟨?_, ?_, ?_, ?_, ?_, ?_⟩ <;> simp only [] <;> omega
    ·rw [if_neg h3] at h; cases h
def countBk (room start : Int) (l : List T3) : Int × Int × Int × Int × Bool :=
 if inB room 1 1000000 && inB start 0 room && decide (l.length ≤ 40) then runEv room l start 0 0 0 else (start, 0, 0, 0, false)
structure Bk where
 room : Int
 start : Int
 evs : List T3
 level : Int
 rained : Int
 drunk : Int
 lost : Int
def Bk.val (b : Bk) (A : Option Addr) (c : Nat) : Value := .agg #[.int .i64 b.room, .int .i64 b.start, .slice A b.evs.length c, .int .i64 b.level, .int .i64 b.rained, .int .i64 b.drunk, .int .i64 b.lost]
set_option maxHeartbeats 1600000 in
theorem counted_any (room start : Int) (A : Option Addr) (c : Nat) (l : List T3) (w : World) (h : RdT w w.heap.size A c l) (h41 : l.length ≤ 41) :
  Calls Tryz.prog 98 #[.int .i64 room, .int .i64 start, .slice A l.length c] w fun e w' => ∃ A' c', e = .returned (.tuple #[.agg #[.int .i64 room, .int .i64 start, .slice A' l.length c', .int .i64 (runEv room l start 0 0 0).1, .int .i64 (runEv room l start 0 0 0).2.1, .int .i64 (runEv room l start 0 0 0).2.2.1, .int .i64 (runEv room l start 0 0 0).2.2.2.1], .bool (runEv room l start 0 0 0).2.2.2.2]) ∧ w'.ownsRow w.heap.size 120 3 (.slice A' l.length c') l.length (t3s l) ∧ Below w.heap.size w w' := by
 obtain ⟨hl, hm⟩ := h.le
 obtain ⟨R, hR⟩ : ∃ R, R = runEv room l start 0 0 0 := ⟨_, rfl⟩
 rw [← hR]
 have HR := Lib.hid hR; clear hR
 go_enter Tryz.func98, Tryz.ntmps98
 go_wp2_with (at_builtin; refine wpList_appAll rfl _ _ 30 rfl (w.heap.size + 1) 120 (.agg #[.int .i64 0, .int .i64 0, .int .i64 0]) 3 24 Tryz.underlying30 infoEv rfl (by decide) (.slice none 0 0) 0 [] rfl (World.ownsRow_nil _ _ _ _) _ A l.length c (t3s l) rfl (h.below ((Below.refl _ _).alloc (Nat.le_refl _) _)) (t3s_one l) (by omega) (by omega) (by simp) ?_)
 intro A1 c1 w1 ho1 hg1
 try simp only [Nat.zero_add, List.nil_append] at ho1
 have hb1 : Below w.heap.size w w1 := ((Below.refl _ _).alloc (Nat.le_refl _) _).grown hg1 (by simp) (by simp [Value.ownBlock])
 have ho1 := Row2.born ho1
 have hk1 : Blk w1 w.heap.size 32 #[.int .i64 0, .int .i64 0, .slice none 0 0, .int .i64 0, .int .i64 0, .int .i64 0, .int .i64 0] := (Blk.new w _ _).grown hg1 (by simp [Value.ownBlock])
 have hz1 : w.heap.size < w1.heap.size := hk1.lt
 have H1 := Lib.hid (And.intro ho1 (And.intro hb1 hk1))
 clear ho1 hb1 hk1 hg1
 try simp only [Nat.zero_add]
 go_wp2
 go_loopw [24] (fun i wr => ∃ (k : Nat) (v r d lo : Int), k ≤ l.length ∧ i = .int .i64 k ∧ Blk wr w1.heap.size 32 #[.int .i64 room, .int .i64 start, .slice A1 l.length c1, .int .i64 v, .int .i64 r, .int .i64 d, .int .i64 lo] ∧ (Blk wr w.heap.size 32 #[.int .i64 0, .int .i64 0, .slice none 0 0, .int .i64 0, .int .i64 0, .int .i64 0, .int .i64 0] ∧ Row2 wr (w.heap.size + 1) w1.heap.size 120 3 A1 l.length c1 (t3s l) ∧ Below w.heap.size w wr) ∧ runEv room (l.drop k) v r d lo = R ∧ 0 ≤ r ∧ r ≤ 1000000 * k ∧ 0 ≤ d ∧ d ≤ 1000000 * k ∧ 0 ≤ lo ∧ lo ≤ 1000000 * k) (fun i _ => l.length - (intOf i).toNat)
 case atStart =>
  refine ⟨0, start, 0, 0, 0, Nat.zero_le _, rfl, Blk.new _ _ _, ⟨H1.out.2.2.alloc _, H1.out.1.alloc _, H1.out.2.1.alloc (by omega) _⟩, HR.out.symm, by omega, by omega, by omega, by omega, by omega, by omega⟩
 case round =>
  obtain ⟨k, v, r, d, lo, hk, rfl, hbk, hrest, hrun, r0, r1, d0, d1, l0, l1⟩ := hrel
  have q0 : wr.cell? ⟨w1.heap.size, 0, none⟩ = some (.int .i64 room) := hbk.cell 0
  have q1 : wr.cell? ⟨w1.heap.size, 1, none⟩ = some (.int .i64 start) := hbk.cell 1
  have q2 : wr.cell? ⟨w1.heap.size, 2, none⟩ = some (.slice A1 l.length c1) := hbk.cell 2
  have q3 : wr.cell? ⟨w1.heap.size, 3, none⟩ = some (.int .i64 v) := hbk.cell 3
  have q4 : wr.cell? ⟨w1.heap.size, 4, none⟩ = some (.int .i64 r) := hbk.cell 4
  have q5 : wr.cell? ⟨w1.heap.size, 5, none⟩ = some (.int .i64 d) := hbk.cell 5
  have q6 : wr.cell? ⟨w1.heap.size, 6, none⟩ = some (.int .i64 lo) := hbk.cell 6
  have hzr : w1.heap.size < wr.heap.size := hbk.lt
  by_cases hlt : k < l.length
  ·obtain ⟨b, o, t, rfl, hbb, hx, e0, e1, e2⟩ := h.at_ hlt
   have f0 : wr.cell? ⟨b, o + k * 3, none⟩ = some (.int .i64 t.x) := (hrest.2.2.cell (p := ⟨b, _, none⟩) hbb).trans e0
   have f1 : wr.cell? ⟨b, o + k * 3 + 1, none⟩ = some (.int .i64 t.y) := (hrest.2.2.cell (p := ⟨b, _, none⟩) hbb).trans e1
   have f2 : wr.cell? ⟨b, o + k * 3 + 2, none⟩ = some (.int .i64 t.z) := (hrest.2.2.cell (p := ⟨b, _, none⟩) hbb).trans e2
   clear e0 e1 e2
   have hbr : b < wr.heap.size := by omega
   have HX := Lib.hid (And.intro hx (And.intro hbk (And.intro hrest hrun)))
   clear hx hbk hrest hrun
   go_wp2_with fail
   obtain ⟨v', r', d', l', ok, he⟩ : ∃ v' r' d' l' ok, evOn v room t.x t.y t.z = (v', r', d', l', ok) := ⟨_, _, _, _, _, rfl⟩
   have hcall := EventOn_any v room t.x t.y t.z (wr.alloc (.cells #[.int .i64 t.x, .int .i64 t.y, .int .i64 t.z] 120))
   rw [he] at hcall
   unfold evRet at hcall
   have hbd := evOn_bounds v room t.x t.y t.z
   rw [he] at hbd
   have HE := Lib.hid he; clear he
   refine hcall.mono ?_
   clear hcall q0 q1 q2 q3 q4 q5 q6
   rintro e w2 ⟨rfl, hb2⟩
   have hbk2 := (HX.out.2.1.alloc (.cells #[.int .i64 t.x, .int .i64 t.y, .int .i64 t.z] 120)).below hb2 (by simp; omega)
   have hk02 := (HX.out.2.2.1.1.alloc (.cells #[.int .i64 t.x, .int .i64 t.y, .int .i64 t.z] 120)).below hb2 (by simp; omega)
   have ho2 := (HX.out.2.2.1.2.1.alloc (.cells #[.int .i64 t.x, .int .i64 t.y, .int .i64 t.z] 120)).below hb2 (by simp; omega)
   have hB2 := (HX.out.2.2.1.2.2.alloc (by omega) (.cells #[.int .i64 t.x, .int .i64 t.y, .int .i64 t.z] 120)).trans (hb2.mono (by simp; omega))
   have hz2 : wr.heap.size < w2.heap.size := by have := hb2.size; simp at this; omega
   have p0 : w2.cell? ⟨w1.heap.size, 0, none⟩ = some (.int .i64 room) := hbk2.cell 0
   have g0 : w2.frozen? ⟨w1.heap.size, 0, none⟩ = false := hbk2.frozen 0
   have p1 : w2.cell? ⟨w1.heap.size, 1, none⟩ = some (.int .i64 start) := hbk2.cell 1
   have g1 : w2.frozen? ⟨w1.heap.size, 1, none⟩ = false := hbk2.frozen 1
   have p2 : w2.cell? ⟨w1.heap.size, 2, none⟩ = some (.slice A1 l.length c1) := hbk2.cell 2
   have g2 : w2.frozen? ⟨w1.heap.size, 2, none⟩ = false := hbk2.frozen 2
   have p3 : w2.cell? ⟨w1.heap.size, 3, none⟩ = some (.int .i64 v) := hbk2.cell 3
   have g3 : w2.frozen? ⟨w1.heap.size, 3, none⟩ = false := hbk2.frozen 3
   have p4 : w2.cell? ⟨w1.heap.size, 4, none⟩ = some (.int .i64 r) := hbk2.cell 4
   have g4 : w2.frozen? ⟨w1.heap.size, 4, none⟩ = false := hbk2.frozen 4
   have p5 : w2.cell? ⟨w1.heap.size, 5, none⟩ = some (.int .i64 d) := hbk2.cell 5
   have g5 : w2.frozen? ⟨w1.heap.size, 5, none⟩ = false := hbk2.frozen 5
   have p6 : w2.cell? ⟨w1.heap.size, 6, none⟩ = some (.int .i64 lo) := hbk2.cell 6
   have g6 : w2.frozen? ⟨w1.heap.size, 6, none⟩ = false := hbk2.frozen 6
   have hrun := HX.out.2.2.2
   rw [drop_cons HX.out.1, runEv_cons, HE.out] at hrun
   have HR2 := Lib.hid (And.intro hbk2 (And.intro hk02 (And.intro ho2 (And.intro hB2 hrun))))
   clear hb2 hbk2 ho2 hB2 hrun f0 f1 f2
   cases ok
   ·obtain ⟨z0, z1, z2, z3, z4, z5, z6⟩ : w2.cell? ⟨w.heap.size, 0, none⟩ = some (.int .i64 0) ∧ w2.cell? ⟨w.heap.size, 1, none⟩ = some (.int .i64 0) ∧ w2.cell? ⟨w.heap.size, 2, none⟩ = some (.slice none 0 0) ∧ w2.cell? ⟨w.heap.size, 3, none⟩ = some (.int .i64 0) ∧ w2.cell? ⟨w.heap.size, 4, none⟩ = some (.int .i64 0) ∧ w2.cell? ⟨w.heap.size, 5, none⟩ = some (.int .i64 0) ∧ w2.cell? ⟨w.heap.size, 6, none⟩ = some (.int .i64 0) := ⟨hk02.cell 0, hk02.cell 1, hk02.cell 2, hk02.cell 3, hk02.cell 4, hk02.cell 5, hk02.cell 6⟩
    obtain ⟨y0, y1, y2, y3, y4, y5, y6⟩ : w2.frozen? ⟨w.heap.size, 0, none⟩ = false ∧ w2.frozen? ⟨w.heap.size, 1, none⟩ = false ∧ w2.frozen? ⟨w.heap.size, 2, none⟩ = false ∧ w2.frozen? ⟨w.heap.size, 3, none⟩ = false ∧ w2.frozen? ⟨w.heap.size, 4, none⟩ = false ∧ w2.frozen? ⟨w.heap.size, 5, none⟩ = false ∧ w2.frozen? ⟨w.heap.size, 6, none⟩ = false := ⟨hk02.frozen 0, hk02.frozen 1, hk02.frozen 2, hk02.frozen 3, hk02.frozen 4, hk02.frozen 5, hk02.frozen 6⟩
    clear hk02
    go_wp2
    have e1 : R = (v, r, d, lo, false) := HR2.out.2.2.2.2.symm
    have hB2 := HR2.out.2.2.2.1
    have ho2 := HR2.out.2.2.1
    rw [e1]
    refine bodyPost_ret (v := .tuple #[.agg #[.int .i64 room, .int .i64 start, .slice A1 l.length c1, .int .i64 v, .int .i64 r, .int .i64 d, .int .i64 lo], .bool false]) ?_ rfl ?_
    ·simp [results, Tryz.results98, go_sem, z0, z1, z2, z3, z4, z5, z6]
    ·refine ⟨A1, c1, rfl, ?_, ?_⟩
     ·refine (Row2.mono (lo := w.heap.size + 1) (lo' := w.heap.size) (hi := w1.heap.size) (hi' := w1.heap.size) ?_ (by omega) (Nat.le_refl _)).1
      repeat' (first | (with_reducible assumption) | (with_reducible refine Row2.far ?_ ?_ _) | (with_reducible refine Row2.alloc ?_ _) | (with_reducible refine Row2.drewN ?_ _) | (with_reducible refine Row2.drew ?_) | (left; dsimp only; omega) | (right; dsimp only; omega))
     ·repeat' (first | (with_reducible exact Below.refl _ _) | (with_reducible assumption) | (with_reducible refine Below.alloc ?_ ?_ _) | (with_reducible refine Below.setCell ?_ ?_ _) | (with_reducible refine Below.drew ?_) | (with_reducible refine below_drewN ?_ _) | (refine Below.trans ?_ (Below.mono (by with_reducible assumption) ?_)) | omega | (simp; done) | (simp; omega))
   ·clear hk02
    have hbd' := hbd rfl
    simp only at hbd'
    obtain ⟨b1, b2, b3, b4, b5, b6⟩ := hbd'
    clear hbd
    go_wp2
    go_roundw
    case rel =>
     have hB2 := HR2.out.2.2.2.1
     have ho2 := HR2.out.2.2.1
     refine ⟨k + 1, v', r + r', d + d', lo + l', by omega, by go_num, ?_, ⟨?_, ?_, ?_⟩, HR2.out.2.2.2.2, by omega, by omega, by omega, by omega, by omega, by omega⟩
     ·exact ((((HR2.out.1.set_ 3 (.int .i64 v')).set_ 4 (.int .i64 (r + r'))).set_ 5 (.int .i64 (d + d'))).set_ 6 (.int .i64 (lo + l')))
     ·exact ((((HR2.out.2.1.far (p := ⟨w1.heap.size, 3, none⟩) (by simp; omega) _).far (p := ⟨w1.heap.size, 4, none⟩) (by simp; omega) _).far (p := ⟨w1.heap.size, 5, none⟩) (by simp; omega) _).far (p := ⟨w1.heap.size, 6, none⟩) (by simp; omega) _)
     ·repeat' (first | (with_reducible assumption) | (with_reducible refine Row2.far ?_ ?_ _) | (with_reducible refine Row2.alloc ?_ _) | (with_reducible refine Row2.drewN ?_ _) | (with_reducible refine Row2.drew ?_) | (left; dsimp only; omega) | (right; dsimp only; omega))
     ·repeat' (first | (with_reducible exact Below.refl _ _) | (with_reducible assumption) | (with_reducible refine Below.alloc ?_ ?_ _) | (with_reducible refine Below.setCell ?_ ?_ _) | (with_reducible refine Below.drew ?_) | (with_reducible refine below_drewN ?_ _) | (refine Below.trans ?_ (Below.mono (by with_reducible assumption) ?_)) | omega | (simp; done) | (simp; omega))
    case measure => simp [intOf]; omega
  ·obtain ⟨hk0, ho, hB⟩ := hrest
   obtain ⟨z0, z1, z2, z3, z4, z5, z6⟩ : wr.cell? ⟨w.heap.size, 0, none⟩ = some (.int .i64 0) ∧ wr.cell? ⟨w.heap.size, 1, none⟩ = some (.int .i64 0) ∧ wr.cell? ⟨w.heap.size, 2, none⟩ = some (.slice none 0 0) ∧ wr.cell? ⟨w.heap.size, 3, none⟩ = some (.int .i64 0) ∧ wr.cell? ⟨w.heap.size, 4, none⟩ = some (.int .i64 0) ∧ wr.cell? ⟨w.heap.size, 5, none⟩ = some (.int .i64 0) ∧ wr.cell? ⟨w.heap.size, 6, none⟩ = some (.int .i64 0) := ⟨hk0.cell 0, hk0.cell 1, hk0.cell 2, hk0.cell 3, hk0.cell 4, hk0.cell 5, hk0.cell 6⟩
   obtain ⟨y0, y1, y2, y3, y4, y5, y6⟩ : wr.frozen? ⟨w.heap.size, 0, none⟩ = false ∧ wr.frozen? ⟨w.heap.size, 1, none⟩ = false ∧ wr.frozen? ⟨w.heap.size, 2, none⟩ = false ∧ wr.frozen? ⟨w.heap.size, 3, none⟩ = false ∧ wr.frozen? ⟨w.heap.size, 4, none⟩ = false ∧ wr.frozen? ⟨w.heap.size, 5, none⟩ = false ∧ wr.frozen? ⟨w.heap.size, 6, none⟩ = false := ⟨hk0.frozen 0, hk0.frozen 1, hk0.frozen 2, hk0.frozen 3, hk0.frozen 4, hk0.frozen 5, hk0.frozen 6⟩
   have e1 : R = (v, r, d, lo, true) := by rw [← hrun, drop_end hlt]; rfl
   have H9 := Lib.hid (And.intro e1 (And.intro ho hB))
   clear hk0 ho hB hrun hbk e1
   go_wp2
   have ho2 := H9.out.2.1
   have hB2 := H9.out.2.2
   rw [H9.out.1]
   refine bodyPost_ret (v := .tuple #[.agg #[.int .i64 room, .int .i64 start, .slice A1 l.length c1, .int .i64 v, .int .i64 r, .int .i64 d, .int .i64 lo], .bool true]) ?_ rfl ?_
   ·simp [results, Tryz.results98, go_sem, z0, z1, z2, z3, z4, z5, z6]
   ·refine ⟨A1, c1, rfl, ?_, ?_⟩
    ·refine (Row2.mono (lo := w.heap.size + 1) (lo' := w.heap.size) (hi := w1.heap.size) (hi' := w1.heap.size) ?_ (by omega) (Nat.le_refl _)).1
     repeat' (first | (with_reducible assumption) | (with_reducible refine Row2.far ?_ ?_ _) | (with_reducible refine Row2.alloc ?_ _) | (with_reducible refine Row2.drewN ?_ _) | (with_reducible refine Row2.drew ?_) | (left; dsimp only; omega) | (right; dsimp only; omega))
    ·repeat' (first | (with_reducible exact Below.refl _ _) | (with_reducible assumption) | (with_reducible refine Below.alloc ?_ ?_ _) | (with_reducible refine Below.setCell ?_ ?_ _) | (with_reducible refine Below.drew ?_) | (with_reducible refine below_drewN ?_ _) | (refine Below.trans ?_ (Below.mono (by with_reducible assumption) ?_)) | omega | (simp; done) | (simp; omega))
end
end Go.Proofs.YtpmmjhpmheooeaaGreatDoor
