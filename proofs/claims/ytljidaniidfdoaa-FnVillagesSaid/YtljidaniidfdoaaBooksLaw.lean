/- What the book's law asks of the contracts, each in the form that the walk meets. -/
import Derived.Test.YtljidaniidfdoaaBookDraw
import Derived.Test.YtljidaniidfdoaaEnter
import Derived.Test.YtljidaniidfdoaaKc
namespace Go.Proofs.Ytljidaniidfdoaa
open Go.RowKit
set_option maxRecDepth 20000
/-- The number that a place of the code gives. -/
def atV (l : List Int) (i : Nat) : Int := if l.length = 0 then 0 else l.getD ((i * 5 + 1) % l.length) 0
set_option maxHeartbeats 800000 in
theorem at_val (A : Option Addr) (c : Nat) (l : List Int) (i : Nat) (w : World) (h : RdY w w.heap.size A c l) (hi : i ≤ 1000) (hs : l.length ≤ 1048576) :
    Calls Try.prog 30 #[.slice A l.length c, .int .i64 i] w fun e w' => e = .returned (.int .i64 (atV l i)) ∧ w = w' := by
  obtain ⟨hl, hm⟩ := h.le
  by_cases h0 : l.length = 0
  · have d0 : ((l.length : Int) == 0) = true := by simp [h0]
    have E : Hid (atV l i = 0) := by show _ = _; unfold atV; rw [if_pos h0]
    go_enter Try.func30, Try.ntmps30
    go_wp2_with fail
    go_ret
    exact ⟨ret_int E.out.symm, rfl⟩
  · have d0 : ((l.length : Int) == 0) = false := by simpa using h0
    have hk : (i * 5 + 1) % l.length < l.length := Nat.mod_lt _ (by omega)
    obtain ⟨b, o, y, rfl, hb, hy, hcy, y0, y1⟩ := h.at_ hk
    have E : Hid (atV l i = y) := by show _ = _; unfold atV; rw [if_neg h0, List.getD_eq_getElem?_getD, hy]; rfl
    have hm1 : ((i : Int) * 5 + 1).tmod (l.length : Int) = (((i * 5 + 1) % l.length : Nat) : Int) := by
      rw [Int.tmod_eq_emod_of_nonneg (by omega)]; push_cast; rfl
    have hm2 : ((i : Int) * 5 + 1) % (l.length : Int) = (((i * 5 + 1) % l.length : Nat) : Int) := by push_cast; rfl
    obtain ⟨k, hkk⟩ : ∃ k, k = (i * 5 + 1) % l.length := ⟨_, rfl⟩
    rw [← hkk] at hk hm1 hm2 hcy
    have k0 : (0 : Int) ≤ (k : Int) := by omega
    have k1 : (k : Int) < (l.length : Int) := by omega
    clear hkk hy
    go_enter Try.func30, Try.ntmps30
    go_wp2_with fail
    go_ret
    exact ⟨ret_int E.out.symm, rfl⟩
theorem atV_bd {w : World} {A : Option Addr} {c : Nat} {l : List Int} {B : Nat} (h : RdY w B A c l) (i : Nat) : 0 ≤ atV l i ∧ atV l i ≤ 255 := by
  unfold atV
  split
  · omega
  · rename_i h0
    have hk : (i * 5 + 1) % l.length < l.length := Nat.mod_lt _ (by omega)
    obtain ⟨b, o, y, _, hb, hy, hcy, y0, y1⟩ := h.at_ hk
    rw [List.getD_eq_getElem?_getD, hy]
    exact ⟨y0, y1⟩
/-- Drunk by the owners 1 to k. -/
def psum (l : List T3) : Nat → Int
  | 0 => 0
  | k + 1 => psum l k + dby ((k + 1 : Nat) : Int) l
theorem psum_succ (l : List T3) (k : Nat) : psum l (k + 1) = psum l k + dby ((k + 1 : Nat) : Int) l := rfl
theorem psum_five (l : List T3) : psum l 5 = dby 1 l + dby 2 l + dby 3 l + dby 4 l + dby 5 l := by
  simp only [psum_succ, psum]; simp
theorem psum_bd {b : Bk} (h : bookOk b = true) : ∀ k, k ≤ 5 → 0 ≤ psum b.evs k ∧ psum b.evs k ≤ 40000000 * k
  | 0, _ => ⟨Int.le_refl _, Int.le_refl _⟩
  | k + 1, hk => by
    have h1 := psum_bd h k (by omega)
    have h2 := dby_bd ((k + 1 : Nat) : Int) b.evs (book_liters h)
    have h3 := (bookOk_iff h).2.2.1
    rw [psum_succ]
    omega
end Go.Proofs.Ytljidaniidfdoaa
