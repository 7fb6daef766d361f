/- What the book's law asks of the contracts, each in the form that the walk meets. -/
import Derived.Test.YtminkdapfamdeaaBookDraw
import Derived.Test.YtminkdapfamdeaaEnter
import Derived.Test.YtminkdapfamdeaaStrike
import Derived.Test.YtminkdapfamdeaaDrunk
namespace Go.Proofs.Ytminkdapfamdeaa
open Go.RowKit
set_option maxRecDepth 20000
/-- The number that a place of the code gives. -/
def atV (l : List Int) (i : Nat) : Int := if l.length = 0 then 0 else l.getD ((i * 5 + 1) % l.length) 0
set_option maxHeartbeats 800000 in
theorem at_val (A : Option Addr) (c : Nat) (l : List Int) (i : Nat) (w : World) (h : RdY w w.heap.size A c l) (hi : i ≤ 1000) (hs : l.length ≤ 1048576) :
    Calls Try.prog 12 #[.slice A l.length c, .int .i64 i] w fun e w' => e = .returned (.int .i64 (atV l i)) ∧ w = w' := by
  obtain ⟨hl, hm⟩ := h.le
  by_cases h0 : l.length = 0
  · have d0 : ((l.length : Int) == 0) = true := by simp [h0]
    have E : Hid (atV l i = 0) := by show _ = _; unfold atV; rw [if_pos h0]
    go_enter Try.func12, Try.ntmps12
    go_wp2_with fail
    go_ret
    exact ⟨ret_int E.out.symm, rfl⟩
  · have d0 : ((l.length : Int) == 0) = false := by simpa using h0
    have hk : (i * 5 + 1) % l.length < l.length := Nat.mod_lt _ (by omega)
    obtain ⟨b, o, y, rfl, hb, hy, hcy, y0, y1⟩ := h.at_ hk
    have E : Hid (atV l i = y) := by show _ = _; unfold atV; rw [if_neg h0, List.getD_eq_getElem?_getD, hy]; rfl
    have hm1 : ((i : Int) * 5 + 1).tmod (l.length : Int) = (((i * 5 + 1) % l.length : Nat) : Int) := by
      rw [Int.tmod_eq_emod_of_nonneg (by omega)]; push_cast; rfl
    have hm2 : ((i : Int) * 5 + 1) % (l.length : Int) = (((i * 5 + 1) % l.length : Nat) : Int) := by push_cast; rfl
    obtain ⟨k, hkk⟩ : ∃ k, k = (i * 5 + 1) % l.length := ⟨_, rfl⟩
    rw [← hkk] at hk hm1 hm2 hcy
    have k0 : (0 : Int) ≤ (k : Int) := by omega
    have k1 : (k : Int) < (l.length : Int) := by omega
    clear hkk hy
    go_enter Try.func12, Try.ntmps12
    go_wp2_with fail
    go_ret
    exact ⟨ret_int E.out.symm, rfl⟩
theorem atV_bd {w : World} {A : Option Addr} {c : Nat} {l : List Int} {B : Nat} (h : RdY w B A c l) (i : Nat) : 0 ≤ atV l i ∧ atV l i ≤ 255 := by
  unfold atV
  split
  · omega
  · rename_i h0
    have hk : (i * 5 + 1) % l.length < l.length := Nat.mod_lt _ (by omega)
    obtain ⟨b, o, y, _, hb, hy, hcy, y0, y1⟩ := h.at_ hk
    rw [List.getD_eq_getElem?_getD, hy]
    exact ⟨y0, y1⟩
theorem DrawBook_any (A : Option Addr) (c : Nat) (l : List Int) (w : World) (h : RdY w w.heap.size A c l) (hs : l.length ≤ 1048576) :
    Calls Try.prog 9 #[.slice A l.length c] w fun e w' => ∃ (A' : Option Addr) (c' : Nat) (b : Bk), e = .returned (b.val A' c') ∧ BkD b 7 ∧ RdT w' w'.heap.size A' c' b.evs ∧ Below w.heap.size w w' := by
  have D0 : Hid (Below w.heap.size w (w.alloc (.cells #[.int .i64 0, .int .i64 0, .slice none 0 0, .int .i64 0, .int .i64 0, .int .i64 0, .int .i64 0] 26))) := Below.alloc (Below.refl _ _) (Nat.le_refl _) _
  have K0 := Lib.hid (Blk.new w 26 #[.int .i64 0, .int .i64 0, .slice none 0 0, .int .i64 0, .int .i64 0, .int .i64 0, .int .i64 0])
  have h0 : Hid (RdY (w.alloc (.cells #[.int .i64 0, .int .i64 0, .slice none 0 0, .int .i64 0, .int .i64 0, .int .i64 0, .int .i64 0] 26)) (w.alloc (.cells #[.int .i64 0, .int .i64 0, .slice none 0 0, .int .i64 0, .int .i64 0, .int .i64 0, .int .i64 0] 26)).heap.size A c l) := RdY.below h D0.out
  go_enter Try.func9, Try.ntmps9
  go_wp2_with fail
  refine (l01New_any A c l _ h0.out hs).mono ?_
  rintro e w1 ⟨p, rfl, hp, hc, hb⟩
  have hpw : w.heap.size < p := by simp at hp; omega
  have K1 := Lib.hid (K0.out.below hb (by simp))
  have B1 : Hid (Below w.heap.size w w1) := D0.out.trans (hb.mono (by simp))
  have HC := Lib.hid hc
  clear hc hb D0 K0 h0 hp
  go_wp2_with fail
  refine (l37Book_any p w1 HC.out).mono ?_
  rintro e w2 ⟨A', c', b, rfl, hq, ho, hd⟩
  have kb2 := hd.blk K1.out (by omega)
  have B2 : Hid (Below w.heap.size w w2) := B1.out.grown hd.2 B1.out.size (fun k hk => by have := Option.some.inj hk; omega)
  have kc := kb2.cells
  have kf := kb2.frozens
  have hl2 := kb2.lt
  have HQ := Lib.hid (And.intro hq (And.intro ho kb2))
  clear hd hq ho kb2
  have hB := B2.out
  unfold Bk.val
  go_wp2_with fail
  refine bodyPost_ret (v := .agg #[.int .i64 b.room, .int .i64 b.start, .slice A' b.evs.length c', .int .i64 b.level, .int .i64 b.rained, .int .i64 b.drunk, .int .i64 b.lost]) (by simp [results, Try.results9, go_sem, kc, hl2]) rfl ⟨A', c', b, rfl, HQ.out.1, ?_, by repeat' (first | (with_reducible exact Below.refl _ _) | (with_reducible assumption) | (with_reducible refine Below.alloc ?_ ?_ _) | (with_reducible refine Below.setCell ?_ ?_ _) | (with_reducible refine Below.drew ?_) | (with_reducible refine below_drewN ?_ _) | (refine Below.trans ?_ (Below.mono (by with_reducible assumption) ?_)) | omega | (simp; done) | (simp; omega))⟩
  exact Rd.of_own (own_set7 HQ.out.2.1 HQ.out.2.2 (by decide) _ _ _ _ _ _ _)
/-- Drunk by the owners 1 to k. -/
def psum (l : List T3) : Nat → Int
  | 0 => 0
  | k + 1 => psum l k + dby ((k + 1 : Nat) : Int) l
theorem psum_succ (l : List T3) (k : Nat) : psum l (k + 1) = psum l k + dby ((k + 1 : Nat) : Int) l := rfl
theorem psum_five (l : List T3) : psum l 5 = dby 1 l + dby 2 l + dby 3 l + dby 4 l + dby 5 l := by
  simp only [psum_succ, psum]; simp
theorem psum_bd {b : Bk} (h : bookOk b = true) : ∀ k, k ≤ 5 → 0 ≤ psum b.evs k ∧ psum b.evs k ≤ 40000000 * k
  | 0, _ => ⟨Int.le_refl _, Int.le_refl _⟩
  | k + 1, hk => by
    have h1 := psum_bd h k (by omega)
    have h2 := dby_bd ((k + 1 : Nat) : Int) b.evs (book_liters h)
    have h3 := (bookOk_iff h).2.2.1
    rw [psum_succ]
    omega
end Go.Proofs.Ytminkdapfamdeaa
