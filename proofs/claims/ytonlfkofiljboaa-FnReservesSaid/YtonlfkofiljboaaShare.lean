/- SharedReserve. -/
import Derived.Test.YtonlfkofiljboaaSortR
import Derived.Test.YtonlfkofiljboaaCheapS
import Derived.Test.YtonlfkofiljboaaSortI
import Derived.Test.YtonlfkofiljboaaStore
namespace Go.Proofs.Ytonlfkofiljboaa
open Go.RowKit
set_option maxRecDepth 20000
def sumT (rs : List Int) : List Int → Int
  | [] => 0
  | i :: l => rs.getD i.toNat 0 + sumT rs l
theorem sumT_cons (rs : List Int) (i : Int) (l : List Int) : sumT rs (i :: l) = rs.getD i.toNat 0 + sumT rs l := rfl
theorem sumT_append (rs : List Int) : ∀ (l m : List Int), sumT rs (l ++ m) = sumT rs l + sumT rs m
  | [], m => by simp [sumT]
  | i :: l, m => by rw [List.cons_append, sumT_cons, sumT_cons, sumT_append rs l m]; omega
theorem sumT_perm (rs : List Int) {l m : List Int} (h : l.Perm m) : sumT rs l = sumT rs m := by
  induction h with
  | nil => rfl
  | cons x _ ih => rw [sumT_cons, sumT_cons, ih]
  | swap x y l => rw [sumT_cons, sumT_cons, sumT_cons, sumT_cons]; omega
  | trans _ _ ih1 ih2 => rw [ih1, ih2]
theorem sumT_le (rs : List Int) (M : Int) (hM : ∀ i : Nat, 0 ≤ rs.getD i 0 ∧ rs.getD i 0 ≤ M) : ∀ (l : List Int), 0 ≤ sumT rs l ∧ sumT rs l ≤ M * l.length
  | [] => by simp [sumT]
  | i :: l => by
    have ih := sumT_le rs M hM l
    have hi := hM i.toNat
    rw [sumT_cons, List.length_cons]
    have e : M * ((l.length + 1 : Nat) : Int) = M * l.length + M := by rw [Int.natCast_add, Int.mul_add]; simp
    rw [e]
    omega
/-- The least m from here on whose first m of the order are enough. -/
def firstM (rs ord : List Int) (need : Int) : Nat → Nat → Option Nat
  | _, 0 => none
  | m, f + 1 => if need ≤ sumT rs (ord.take m) then some m else firstM rs ord need (m + 1) f
theorem firstM_succ (rs ord : List Int) (need : Int) (m f : Nat) : firstM rs ord need m (f + 1) = if need ≤ sumT rs (ord.take m) then some m else firstM rs ord need (m + 1) f := rfl
def storesOk (l : List T3) : Bool := l.all fun t => storeOk t.x t.y t.z
def sharedOf (l : List T3) : Option Nat → List Int
  | none => []
  | some m => ((ordR (rsv l) l.length).take m).mergeSort leI
def shared (l : List T3) (need : Int) : List Int :=
  if decide (l.length ≤ 12) && inB need 0 1000000 && storesOk l then sharedOf l (firstM (rsv l) (ordR (rsv l) l.length) need 0 (l.length + 1)) else []
theorem shared_no {l : List T3} {need : Int} (h : ¬ l.length ≤ 12 ∨ inB need 0 1000000 = false ∨ storesOk l = false) : shared l need = [] := by
  unfold shared
  rcases h with h | h | h <;> simp [h]
theorem shared_yes {l : List T3} {need : Int} (h1 : l.length ≤ 12) (h2 : inB need 0 1000000 = true) (h3 : storesOk l = true) : shared l need = sharedOf l (firstM (rsv l) (ordR (rsv l) l.length) need 0 (l.length + 1)) := by
  unfold shared; simp [h1, h2, h3]
theorem shared_len (l : List T3) (need : Int) : (shared l need).length ≤ l.length := by
  unfold shared
  split
  · cases firstM (rsv l) (ordR (rsv l) l.length) need 0 (l.length + 1) with
    | none => simp [sharedOf]
    | some m => simp only [sharedOf, sort_len, List.length_take, ordR_len]; omega
  · simp
theorem storeOk_z {x y z : Int} (h : storeOk x y z = true) : 0 ≤ z ∧ z ≤ 1000000 := by
  unfold storeOk cisOk at h
  simp only [Bool.and_eq_true] at h
  have h1 := inB_iff.1 h.1.1
  have h2 := inB_iff.1 h.2
  omega
theorem storesOk_z {l : List T3} (h : storesOk l = true) : ∀ t ∈ l, 0 ≤ t.z ∧ t.z ≤ 1000000 := fun t ht => storeOk_z (List.all_eq_true.1 h t ht)
theorem rsv_range {l : List T3} (h : storesOk l = true) (i : Nat) : 0 ≤ (rsv l).getD i 0 ∧ (rsv l).getD i 0 ≤ 1000000 := by
  rw [List.getD_eq_getElem?_getD]
  unfold rsv
  rw [List.getElem?_map]
  cases hx : l[i]? with
  | none => simp
  | some t => exact storesOk_z h t (List.mem_of_getElem? hx)
theorem storesOk_cons (t : T3) (l : List T3) : storesOk (t :: l) = (storeOk t.x t.y t.z && storesOk l) := rfl
theorem storeOk_b (x y z : Int) (w : World) : Calls Try.prog 30 #[.agg #[.int .i64 x, .int .i64 y, .int .i64 z]] w fun e w' => e = .returned (.bool (storeOk x y z)) ∧ Below w.heap.size w w' :=
  (StoreOk_any x y z w).mono fun e w' ⟨h1, o1, o2, h2⟩ => ⟨h1, by rw [h2]; repeat' (first | (with_reducible exact Below.refl _ _) | (with_reducible assumption) | (with_reducible refine Below.alloc ?_ ?_ _) | (with_reducible refine Below.setCell ?_ ?_ _) | (with_reducible refine Below.drew ?_) | (with_reducible refine below_drewN ?_ _) | (refine Below.trans ?_ (Below.mono (by with_reducible assumption) ?_)) | omega | (simp; done) | (simp; omega))⟩
/-- The sort of nothing. -/
theorem sortR_nil (A : Option Addr) (c : Nat) (v : Value) (w : World) :
    Calls Try.prog 58 #[.slice A 0 c, v] w fun e w' => e = .returned (.tuple #[]) ∧ w = w' := by
  have h1 : ∀ W, Calls Try.prog 129 #[.slice A 0 c, .int .i64 0, .int .i64 0, v] W fun e w' => e = .returned (.tuple #[]) ∧ W = w' := fun W => by
    go_enter Try.func129, Try.ntmps129
    go_wp2_with fail
    refine wp_loop_rounds 1 ?_
    rw [rounds_succ]
    go_wp2_with fail
    go_end0
    exact ⟨rfl, rfl⟩
  have h2 : ∀ W, Calls Try.prog 95 #[.slice A 0 c, .int .i64 0, v] W fun e w' => e = .returned (.tuple #[]) ∧ W = w' := fun W => by
    have H1 := Lib.hid (h1 W)
    go_enter Try.func95, Try.ntmps95
    go_wp2_with fail
    refine wp_loop_rounds 1 ?_
    rw [rounds_succ]
    go_wp2_with fail
    refine H1.out.mono ?_
    rintro e w1 ⟨rfl, rfl⟩
    go_wp2_with fail
    refine wp_loop_rounds 1 ?_
    rw [rounds_succ]
    go_wp2_with fail
    go_end0
    exact ⟨rfl, rfl⟩
  have H2 := Lib.hid (h2 w)
  go_enter Try.func58, Try.ntmps58
  go_wp2_with fail
  refine H2.out.mono ?_
  rintro e w1 ⟨rfl, rfl⟩
  go_wp2_with fail
  go_end0
  exact ⟨rfl, rfl⟩
theorem sortO_any (base c : Nat) (A : Option Addr) (l : List Int) (w : World) (h : OwnI w base A c l) (hs : l.length ≤ 1048576) :
    Calls Try.prog 68 #[.slice A l.length c] w fun e w' => e = .returned (.tuple #[]) ∧ OwnI w' base A c (l.mergeSort leI) ∧ w.grownBy w' (Value.slice A l.length c).ownBlock := by
  cases l with
  | nil => exact (Try.slices_Sort_int_none A c w).mono fun e w' ⟨h1, h2⟩ => by subst h2; exact ⟨h1, by simpa using h, World.grownBy.refl _ _⟩
  | cons x t =>
    obtain ⟨g, hA, _⟩ := h.set_ (k := 0) (by simp) 0
    subst hA
    exact sortI_any base g c (x :: t) w h hs
set_option maxHeartbeats 6400000 in
theorem SharedReserve_any (A : Option Addr) (c : Nat) (l : List T3) (need : Int) (w : World) (h : RdT w w.heap.size A c l) :
    Calls Try.prog 29 #[.slice A l.length c, .int .i64 need] w fun e w' => ∃ A' c', e = .returned (.slice A' (shared l need).length c') ∧ OwnI w' w.heap.size A' c' (shared l need) ∧ Below w.heap.size w w' := by
  obtain ⟨hl, hm⟩ := h.le
  have hB := Below.refl w.heap.size w
  by_cases h12 : l.length ≤ 12
  case neg =>
    have E := Lib.hid (shared_no (l := l) (need := need) (.inl h12))
    have hgl : (12 : Int) < (l.length : Int) := by omega
    go_enter Try.func29, Try.ntmps29
    go_wp2_with fail
    go_ret
    rw [E.out]
    exact ⟨none, 0, rfl, own_nil _ _, by repeat' (first | (with_reducible exact Below.refl _ _) | (with_reducible assumption) | (with_reducible refine Below.alloc ?_ ?_ _) | (with_reducible refine Below.setCell ?_ ?_ _) | (with_reducible refine Below.drew ?_) | (with_reducible refine below_drewN ?_ _) | (refine Below.trans ?_ (Below.mono (by with_reducible assumption) ?_)) | omega | (simp; done) | (simp; omega))⟩
  have hgl : ¬ (12 : Int) < (l.length : Int) := by omega
  cases hnd : inB need 0 1000000
  · have E := Lib.hid (shared_no (l := l) (.inr (.inl hnd)))
    go_enter Try.func29, Try.ntmps29
    go_wp2_with (go_at_call 54; refine (within_any _ _ _ _).mono ?_; rintro e w' ⟨rfl, rfl⟩)
    go_ret
    rw [E.out]
    exact ⟨none, 0, rfl, own_nil _ _, by repeat' (first | (with_reducible exact Below.refl _ _) | (with_reducible assumption) | (with_reducible refine Below.alloc ?_ ?_ _) | (with_reducible refine Below.setCell ?_ ?_ _) | (with_reducible refine Below.drew ?_) | (with_reducible refine below_drewN ?_ _) | (refine Below.trans ?_ (Below.mono (by with_reducible assumption) ?_)) | omega | (simp; done) | (simp; omega))⟩
  have hnn := inB_iff.1 hnd
  have ND := Lib.hid hnd
  go_enter Try.func29, Try.ntmps29
  go_wp2_with (go_at_call 54; refine (within_any _ _ _ _).mono ?_; rintro e w' ⟨rfl, rfl⟩)
  have S0 : Hid (OwnI (w.alloc (.cells #[.slice A l.length c] 56)) (w.heap.size + 1) none 0 (upto 0) ∧ Blk (w.alloc (.cells #[.slice A l.length c] 56)) w.heap.size 56 #[.slice A l.length c] ∧ Below w.heap.size w (w.alloc (.cells #[.slice A l.length c] 56)) ∧ w.heap.size < (w.alloc (.cells #[.slice A l.length c] 56)).heap.size) := ⟨own_nil _ _, Blk.new _ _ _, hB.alloc (Nat.le_refl _) _, by simp⟩
  go_loopw [5, 21] (fun v i wr => ∃ (k : Nat) (A' : Option Addr) (c' : Nat), k ≤ l.length ∧ i = .int .i64 k ∧ v = .slice A' k c' ∧ Hid (OwnI wr (w.heap.size + 1) A' c' (upto k) ∧ Blk wr w.heap.size 56 #[.slice A l.length c] ∧ Below w.heap.size w wr ∧ w.heap.size < wr.heap.size) ∧ Hid (storesOk (l.drop k) = storesOk l)) (fun _ i _ => l.length - (intOf i).toNat)
  case atStart => exact ⟨0, none, 0, Nat.zero_le _, rfl, rfl, S0, rfl⟩
  case round =>
    clear S0 hB
    obtain ⟨k, A', c', hk, rfl, rfl, HO, HE⟩ := hrel
    have kb_p := HO.out.2.1
    have hB := HO.out.2.2.1
    have hgw := HO.out.2.2.2
    have hr_r : Row2 wr (w.heap.size + 1) wr.heap.size 3 1 A' k c' (ints (upto k)) := by
      have := HO.out.1.row2
      rwa [upto_len] at this
    have kc_p := kb_p.cells
    have kf_p := kb_p.frozens
    have hn_p := Nat.ne_of_lt hgw
    by_cases hlt : k < l.length
    · obtain ⟨b, o, ⟨x, y, z⟩, rfl, hbb, hx, hc0, hc1, hc2⟩ := h.at_ hlt
      have f0 : wr.cell? ⟨b, o + k * 3, none⟩ = some (.int .i64 x) := (hB.cell (p := ⟨b, _, none⟩) hbb).trans hc0
      have f1 : wr.cell? ⟨b, o + k * 3 + 1, none⟩ = some (.int .i64 y) := (hB.cell (p := ⟨b, _, none⟩) hbb).trans hc1
      have f2 : wr.cell? ⟨b, o + k * 3 + 2, none⟩ = some (.int .i64 z) := (hB.cell (p := ⟨b, _, none⟩) hbb).trans hc2
      have hs := HE.out
      rw [drop_cons hx, storesOk_cons] at hs
      have hkl : (k : Int) < (l.length : Int) := by omega
      have hul : (upto k).length = k := upto_len k
      have hus : Hid (upto (k + 1) = upto k ++ [(k : Int)]) := upto_succ k
      clear hx hc0 hc1 hc2
      go_wp2_with fail
      first | refine name_world ?_ | refine name_wp ?_
      intro W1 hW
      replace hB : Below w.heap.size w W1 := by rw [hW]; repeat' (first | (with_reducible exact Below.refl _ _) | (with_reducible assumption) | (with_reducible refine Below.alloc ?_ ?_ _) | (with_reducible refine Below.setCell ?_ ?_ _) | (with_reducible refine Below.drew ?_) | (with_reducible refine below_drewN ?_ _) | (refine Below.trans ?_ (Below.mono (by with_reducible assumption) ?_)) | omega | (simp; done) | (simp; omega))
      have hz_W1 : wr.heap.size ≤ W1.heap.size := by rw [hW]; first | (simp; done) | (simp; omega)
      replace kb_p : Blk W1 (w.heap.size) 56 #[.slice (some ⟨b, o, none⟩) l.length c] := by rw [hW]; repeat' (first | (with_reducible assumption) | (with_reducible refine Blk.drew ?_) | (with_reducible refine Blk.drewN ?_ _) | (with_reducible refine Blk.new' _ _ _ _ ?_; (first | rfl | omega | (simp; done))) | (with_reducible exact Blk.new _ _ _) | (with_reducible refine Blk.alloc ?_ _) | (with_reducible apply Blk.set8) | (with_reducible apply Blk.set7of8) | (with_reducible apply Blk.setlast8) | (with_reducible apply Blk.set7) | (with_reducible apply Blk.set2) | (with_reducible apply Blk.set3) | (with_reducible refine Blk.far ?_ ?_ _) | (simp; done) | (simp; omega) | (dsimp only; omega))
      have hLW1_p := kb_p.lt
      replace hr_r : Row2 W1 (w.heap.size + 1) (wr.heap.size) 3 1 A' (k) c' (ints (upto k)) := by rw [hW]; repeat' (first | (with_reducible assumption) | (with_reducible refine Row2.far ?_ ?_ _) | (with_reducible refine Row2.alloc ?_ _) | (with_reducible refine Row2.drewN ?_ _) | (with_reducible refine Row2.drew ?_) | (left; dsimp only; omega) | (right; dsimp only; omega))
      try clear kc_p kf_p
      clear hW
      refine (storeOk_b x y z W1).mono ?_
      rintro e w1 ⟨rfl, hb⟩
      replace hB := hB.trans (Below.mono hb hB.size)
      have hz_w1 : W1.heap.size ≤ w1.heap.size := Below.size hb
      replace kb_p := Blk.below kb_p hb (by first | exact kb_p.lt | (have := kb_p.lt; omega))
      have kc_p := kb_p.cells
      have kf_p := kb_p.frozens
      have hl_p := kb_p.lt
      have hn_p := Nat.ne_of_lt kb_p.lt
      replace hr_r := Row2.below hr_r hb (by omega)
      clear hb
      clear f0 f1 f2
      cases hok : storeOk x y z
      · have E : Hid (shared l need = []) := shared_no (.inr (.inr (by rw [← hs]; simp only [hok]; rfl)))
        clear hs
        go_wp2_with fail
        go_ret
        rw [E.out]
        exact ⟨none, 0, rfl, own_nil _ _, hB⟩
      · simp only [hok, Bool.true_and] at hs
        have HS := Lib.hid hs
        clear hs
        have hbs := hB.size
        have ho1 : OwnI (w1.alloc (.cells #[.int .i64 k] 3)) (w.heap.size + 1) A' c' (upto k) := hr_r.ownI.alloc _
        go_wp2_with (at_builtin; refine wpList_app1 rfl _ _ rfl (w.heap.size + 1) A' c' (upto k) (by rw [hul]; rfl) ho1 w1.heap.size k rfl (cell_new1 _ _ _) (by omega) (by first | omega | (simp; omega)) ?_)
        intro A2 c2 w2 ho2 hg2
        have hb2 := below_grown_own (hB.alloc hbs (.cells #[.int .i64 k] 3)) ho1 (by rw [hul]; exact hg2) (by omega) (by first | omega | (simp; omega))
        have hk2 : Blk w2 w.heap.size 56 #[.slice (some ⟨b, o, none⟩) l.length c] := (kb_p.alloc _).grown hg2 (fun e => by have h2 := (own_block_ge ho1 (g := w.heap.size) (by rw [hul]; exact e.symm)).1; omega)
        have hg9 : w.heap.size < w2.heap.size := by have h8 : w1.heap.size + 1 ≤ w2.heap.size := (by simpa using hg2.size); omega
        rw [← hus.out] at ho2
        have H3 := Lib.hid (And.intro ho2 (And.intro hk2 (And.intro hb2 hg9)))
        try rw [hul]
        clear ho2 hb2 hg2 ho1 hk2 hB kb_p kc_p kf_p hr_r hn_p hl_p
        go_wp2_with fail
        go_roundw
        case rel => exact ⟨k + 1, A2, c2, by omega, by go_num, rfl, H3.out, HS.out⟩
        case measure => simp [intOf]; omega
    · have hkn : k = l.length := by omega
      subst hkn
      have hkl : ¬ ((l.length : Nat) : Int) < (l.length : Int) := by omega
      have hok : storesOk l = true := by rw [← HE.out, drop_end hlt]; rfl
      have E := Lib.hid (shared_yes h12 ND.out hok)
      obtain ⟨ord, hord⟩ : ∃ ord, ord = ordR (rsv l) l.length := ⟨_, rfl⟩
      have holen : ord.length = l.length := by rw [hord, ordR_len]
      have hsort : Hid (Calls Try.prog 58 #[.slice A' l.length c', .func (.func 67) #[] #[.pointer (some ⟨w.heap.size, 0, none⟩)]] wr fun e w' => e = .returned (.tuple #[]) ∧ OwnI w' (w.heap.size + 1) A' c' ord ∧ Blk w' w.heap.size 56 #[.slice A l.length c] ∧ Below w.heap.size w w' ∧ wr.heap.size ≤ w'.heap.size) := by
        by_cases h0 : l.length = 0
        · have e0 : ord = upto l.length := by rw [hord, h0]; rfl
          rw [h0]
          refine (sortR_nil A' c' _ wr).mono ?_
          rintro e w' ⟨h1, rfl⟩
          exact ⟨h1, by rw [e0]; exact HO.out.1, by rw [← h0]; exact kb_p, hB, Nat.le_refl _⟩
        · obtain ⟨g, hA, hgb, hgl, _⟩ := HO.out.1.set_ (k := 0) (by rw [upto_len]; omega) 0
          subst hA
          have := sortR_any A c l w.heap.size g c' (w.heap.size + 1) (upto l.length) wr HO.out.1 hgl (Rd.more (Rd.keep h (fun p hp => hB.cell hp)) (by omega)) (by omega) (by rw [kc_p]; rfl) (storesOk_z hok) (fun x hx => upto_mem hx) (by rw [upto_len]; exact h12)
          rw [upto_len] at this
          refine this.mono ?_
          rintro e w' ⟨h1, h2, h3⟩
          rw [lt_mns] at h2
          refine ⟨h1, by rw [hord]; exact h2, kb_p.grown h3 (fun e => by have h9 := Option.some.inj e; omega), hB.grown h3 hB.size (fun k hk => by have h9 : g = k := Option.some.inj hk; omega), h3.size⟩
      have HRS := Lib.hid (fun i => rsv_range hok i)
      have HORD := Lib.hid hord
      have HMEM : Hid (∀ x ∈ ord, ∃ k : Nat, x = (k : Int) ∧ k < l.length) := fun x hx => by rw [hord] at hx; exact upto_mem (ordR_mem.1 hx)
      rw [← hord] at E
      clear hr_r kb_p kc_p kf_p hn_p hB hord hok
      go_wp2_with fail
      refine hsort.out.mono ?_
      rintro e w4 ⟨rfl, ho4, hk4, hB4, hs4⟩
      have hbs4 := hB4.size
      have HGB : Hid (∀ g, (Value.slice A' ord.length c').ownBlock = some g → g < w4.heap.size) := fun g hg => (ho4.lt g hg).2
      have S1 : Hid (OwnI w4 (w.heap.size + 1) A' c' ord ∧ Row2 w4 w4.heap.size w4.heap.size 3 1 none 0 0 (ints []) ∧ Blk w4 w.heap.size 56 #[.slice A l.length c] ∧ Below w.heap.size w w4) := ⟨ho4, ⟨World.ownsRow_nil _ _ _ _, fun g hg => by cases hg⟩, hk4, hB4⟩
      clear ho4 hk4 hB4 hsort HO
      have hgt : w.heap.size < w4.heap.size := by omega
      go_wp2_with fail
      go_loopw [1, 8, 39] (fun nd v i wr => ∃ (k : Nat) (A2 : Option Addr) (c2 : Nat) (nk : Int), k ≤ l.length ∧ i = .int .i64 k ∧ nd = .int .i64 nk ∧ v = .slice A2 k c2 ∧ Hid (OwnI wr (w.heap.size + 1) A' c' ord ∧ OwnI wr w4.heap.size A2 c2 (ord.take k) ∧ Blk wr w.heap.size 56 #[.slice A l.length c] ∧ Below w.heap.size w wr ∧ w4.heap.size ≤ wr.heap.size) ∧ Hid (firstM (rsv l) ord need k (l.length + 1 - k) = firstM (rsv l) ord need 0 (l.length + 1) ∧ nk = need - sumT (rsv l) (ord.take k))) (fun _ _ i _ => l.length - (intOf i).toNat)
      case atStart => exact ⟨0, none, 0, need, Nat.zero_le _, rfl, rfl, rfl, ⟨S1.out.1, own_nil _ _, S1.out.2.2.1, S1.out.2.2.2, Nat.le_refl _⟩, ⟨rfl, by simp [sumT]⟩⟩
      case round =>
        clear S1
        obtain ⟨k, A2, c2, nk, hk, rfl, rfl, rfl, HO, HF⟩ := hrel
        have hbs := HO.out.2.2.2.1.size
        have hws := HO.out.2.2.2.2
        have htl : (ord.take k).length = k := by rw [List.length_take]; omega
        have hsr := sumT_le (rsv l) 1000000 HRS.out (ord.take k)
        rw [htl] at hsr
        have hfk := HF.out.1
        have hnk := HF.out.2
        have esf : l.length + 1 - k = (l.length - k) + 1 := by omega
        rw [esf, firstM_succ] at hfk
        have hsO := Lib.hid (sortO_any w4.heap.size c2 A2 (ord.take k) wr HO.out.2.1 (by omega))
        rw [htl] at hsO
        by_cases hlt : k < l.length
        · have hx : ord[k]? = some ord[k] := List.getElem?_eq_getElem (by omega)
          obtain ⟨j, hj, hjl⟩ := HMEM.out _ (List.getElem_mem (show k < ord.length by omega))
          rw [hj] at hx
          obtain ⟨g, hA, _, hgl, _, ⟨v, hcv, hv⟩, _⟩ := HO.out.1.set_ (k := k) (by omega) 0
          subst hA
          rw [hx] at hv
          obtain rfl := Option.some.inj hv
          have hkl : (k : Int) < (l.length : Int) := by omega
          clear hv hj
          by_cases hn0 : nk ≤ 0
          · rw [if_pos (by omega)] at hfk
            have HR : Hid (shared l need = (ord.take k).mergeSort leI ∧ ((ord.take k).mergeSort leI).length = k) := ⟨by rw [E.out, ← hfk]; unfold sharedOf; rw [← HORD.out], by rw [sort_len, htl]⟩
            have hn1 : ¬ (0 : Int) < nk := by omega
            clear hfk hnk hx
            go_wp2_with fail
            refine hsO.out.mono ?_
            rintro e w5 ⟨rfl, ho5, hg5⟩
            have hB5 := below_grown_own HO.out.2.2.2.1 HO.out.2.1 (by rw [htl]; exact hg5) (by omega) hbs
            have H5 := Lib.hid (And.intro ho5 hB5)
            clear ho5 hg5 hB5
            go_wp2_with fail
            go_ret
            rw [HR.out.1]
            exact ⟨_, _, by rw [HR.out.2]; rfl, own_mono' H5.out.1 (by omega), H5.out.2⟩
          · rw [if_neg (by omega)] at hfk
            obtain ⟨b, o, ⟨x, y, z⟩, rfl, hbb, hxj, hc0, hc1, hc2⟩ := h.at_ hjl
            have f2 : wr.cell? ⟨b, o + j * 3 + 2, none⟩ = some (.int .i64 z) := (HO.out.2.2.2.1.cell (p := ⟨b, _, none⟩) hbb).trans hc2
            have hz : (rsv l).getD j 0 = z := getD_of (rsv_get hxj)
            have hzr := HRS.out j
            rw [hz] at hzr
            have htk : Hid (ord.take (k + 1) = ord.take k ++ [(j : Int)]) := take_snocI _ _ _ hx
            have hsum : sumT (rsv l) (ord.take (k + 1)) = sumT (rsv l) (ord.take k) + z := by
              rw [htk.out, sumT_append, sumT_cons, Int.toNat_natCast, hz]; simp [sumT]
            have esg : l.length + 1 - (k + 1) = l.length - k := by omega
            have HF2 : Hid (firstM (rsv l) ord need (k + 1) (l.length + 1 - (k + 1)) = firstM (rsv l) ord need 0 (l.length + 1) ∧ nk - z = need - sumT (rsv l) (ord.take (k + 1))) := ⟨by rw [esg]; exact hfk, by rw [hsum]; omega⟩
            have hw : IntKind.i64.wrap (nk - z) = nk - z := IntWalk.i64_in _ (by omega)
            have j0 : (0 : Int) ≤ (j : Int) := by omega
            have j1 : (j : Int) < (l.length : Int) := by omega
            have g0 : wr.cell? ⟨w.heap.size, 0, none⟩ = some (.slice (some ⟨b, o, none⟩) l.length c) := by rw [HO.out.2.2.1.cell]; rfl
            have hne : w.heap.size ≠ wr.heap.size := by omega
            have ho1 : OwnI (wr.alloc (.cells #[.int .i64 j] 3)) w4.heap.size A2 c2 (ord.take k) := HO.out.2.1.alloc _
            clear hfk hnk hx hxj hc0 hc1 hsum hsO hz
            go_wp2_with (at_builtin; refine wpList_app1 rfl _ _ rfl w4.heap.size A2 c2 (ord.take k) (by rw [htl]; rfl) ho1 wr.heap.size j rfl (cell_new1 _ _ _) (by omega) (by first | omega | (simp; omega)) ?_)
            intro A3 c3 w5 ho2 hg2
            try rw [htl] at hg2
            try rw [htl]
            have hb2 := below_grown_own (HO.out.2.2.2.1.alloc hbs (.cells #[.int .i64 j] 3)) ho1 (by rw [htl]; exact hg2) (by omega) (by first | omega | (simp; omega))
            have hk2 : Blk w5 w.heap.size 56 #[.slice (some ⟨b, o, none⟩) l.length c] := (HO.out.2.2.1.alloc _).grown hg2 (fun e => by have h2 := (own_block_ge ho1 (g := w.heap.size) (by rw [htl]; exact e.symm)).1; omega)
            have ho0 : OwnI w5 (w.heap.size + 1) (some ⟨g, 0, none⟩) c' ord := own_kept (xs' := ([] : List Value)) (base' := 0) (e' := 0) (sz' := 1) (HO.out.1.alloc (.cells #[.int .i64 j] 3)) hg2 (fun p q hp hq => by have h1 := HGB.out p hp; have h2 := (own_block_ge ho1 (g := q) (by rw [htl]; exact hq)).1; omega)
            have hg9 : w4.heap.size ≤ w5.heap.size := by have h8 : wr.heap.size + 1 ≤ w5.heap.size := (by simpa using hg2.size); omega
            rw [← htk.out] at ho2
            have H3 := Lib.hid (And.intro ho0 (And.intro ho2 (And.intro hk2 (And.intro hb2 hg9))))
            have f2' : w5.cell? ⟨b, o + j * 3 + 2, none⟩ = some (.int .i64 z) := (hb2.cell (p := ⟨b, _, none⟩) hbb).trans hc2
            have g0' : w5.cell? ⟨w.heap.size, 0, none⟩ = some (.slice (some ⟨b, o, none⟩) l.length c) := by rw [hk2.cell]; rfl
            clear ho2 hb2 hg2 ho1 hk2 ho0 f2 g0 hc2
            go_wp2_with fail
            go_roundw
            case rel => exact ⟨k + 1, A3, c3, nk - z, by omega, by go_num, rfl, rfl, H3.out, HF2.out⟩
            case measure => simp [intOf]; omega
        · have hkn : k = l.length := by omega
          subst hkn
          have hkl : ¬ ((l.length : Nat) : Int) < (l.length : Int) := by omega
          have e0 : l.length - l.length = 0 := by omega
          rw [e0] at hfk
          have efn : firstM (rsv l) ord need (l.length + 1) 0 = none := rfl
          rw [efn] at hfk
          by_cases hn0 : nk ≤ 0
          · rw [if_pos (by omega)] at hfk
            have HR : Hid (shared l need = (ord.take l.length).mergeSort leI ∧ ((ord.take l.length).mergeSort leI).length = l.length) := ⟨by rw [E.out, ← hfk]; unfold sharedOf; rw [← HORD.out], by rw [sort_len, htl]⟩
            have hn1 : ¬ (0 : Int) < nk := by omega
            clear hfk hnk
            go_wp2_with fail
            refine hsO.out.mono ?_
            rintro e w5 ⟨rfl, ho5, hg5⟩
            have hB5 := below_grown_own HO.out.2.2.2.1 HO.out.2.1 (by rw [htl]; exact hg5) (by omega) hbs
            have H5 := Lib.hid (And.intro ho5 hB5)
            clear ho5 hg5 hB5
            go_wp2_with fail
            go_ret
            rw [HR.out.1]
            exact ⟨_, _, by rw [HR.out.2]; rfl, own_mono' H5.out.1 (by omega), H5.out.2⟩
          · rw [if_neg (by omega)] at hfk
            have HR : Hid (shared l need = []) := by show _ = _; rw [E.out, ← hfk]; rfl
            have hn1 : (0 : Int) < nk := by omega
            clear hfk hnk
            go_wp2_with fail
            go_ret
            rw [HR.out]
            exact ⟨none, 0, rfl, own_nil _ _, HO.out.2.2.2.1⟩
end Go.Proofs.Ytonlfkofiljboaa
