/- Rows of strings that the call owns. -/
import Derived.Test.YtpmmjhpmheooeaaDoorText
import Derived.Lib.Join
namespace Go.Proofs.YtpmmjhpmheooeaaDoor
set_option linter.unusedSimpArgs false
set_option linter.unusedVariables false
open Go.RowKit
set_option maxRecDepth 20000
def strs (l : List (List UInt8)) : List Value := l.map sv
def RdSt (w : World) (B : Nat) (A : Option Addr) (c : Nat) (l : List (List UInt8)) : Prop := Rd w B 1 A l.length c (strs l)
theorem infoSt : (Tryd.prog.info? 9).map (fun i => (i.zero, i.size, i.bytes)) = some (some (.string ⟨#[]⟩), 1, 16) := by kernel_rfl
def OwnSt (w : World) (base : Nat) (A : Option Addr) (c : Nat) (l : List (List UInt8)) : Prop := w.ownsRow base 9 1 (.slice A l.length c) l.length (strs l)
theorem OwnSt.rd {w : World} {base c : Nat} {A : Option Addr} {l : List (List UInt8)} (h : OwnSt w base A c l) : RdSt w w.heap.size A c l := Rd.of_own h
/-- one string appended to an owned row. -/
theorem wpList_appSt {w : World} {ops : Array Oper} {rest : List Oper} {o : Oper} {a : _root_.Go.Act} {Q : Exit → _root_.Go.Act → World → Prop} (hgd : o.guard = none) (s x : Operand)
    (ho : o.op = .call { callee := .builtin .append, args := #[s, x], argTypes := #[56, 56] })
    (base : Nat) (A : Option Addr) (c : Nat) (l : List (List UInt8)) (hs : a.eval s = .slice A l.length c) (hown : OwnSt w base A c l)
    (g : Nat) (y : List UInt8) (hx : a.eval x = .slice (some ⟨g, 0, none⟩) 1 1) (hc : w.cell? ⟨g, 0, none⟩ = some (sv y)) (hlen : l.length ≤ 1000000000) (hbase : base ≤ w.heap.size)
    (h : ∀ A' c' w', OwnSt w' base A' c' (l ++ [y]) → w.grownBy w' (Value.slice A l.length c).ownBlock → wpList Tryd.prog ops Q rest (a.put o.dst (.slice A' (l.length + 1) c')) w') :
    wpList Tryd.prog ops Q (o :: rest) a w := by
  obtain ⟨i0, hi, hz0, hz1, hz2⟩ := info_parts infoSt
  refine wpList_append_own _ hgd s x 56 ho base 9 i0 (.string ⟨#[]⟩) 1 16 Tryd.underlying56 hi hz0 hz1 hz2 rfl (by decide) _ _ _ hs hown ⟨g, 0, none⟩ 1 1 [sv y] hx rfl ?_ ?_ (by unfold maxLen; omega) (by omega) hbase ?_
  · intro j u hj
    match j, hj with
    | 0, hj => simp only [List.getElem?_cons_zero, Option.some.injEq] at hj; subst hj; rw [Addr.add_lit]; exact hc
  · intro u hu; simp only [List.mem_singleton] at hu; subst hu; rfl
  · intro v' w1 hown' hgrow _
    have hex : ∃ A' c', v' = .slice A' (l.length + 1) c' := by
      rcases hown'.2 with ⟨rfl, h0⟩ | ⟨g', cap, cur, rfl, _⟩
      · omega
      · exact ⟨_, _, rfl⟩
    obtain ⟨A', c', rfl⟩ := hex
    refine h A' c' w1 ?_ hgrow
    unfold OwnSt
    rw [List.length_append]
    have e : strs (l ++ [y]) = strs l ++ [sv y] := by unfold strs; rw [List.map_append]; rfl
    rw [e]
    exact hown'
theorem ownSt_nil (w : World) (base : Nat) : OwnSt w base none 0 [] := World.ownsRow_nil _ _ _ _
theorem RdSt.at_ {w : World} {B c : Nat} {A : Option Addr} {l : List (List UInt8)} (h : RdSt w B A c l) {k : Nat} (hk : k < l.length) :
    ∃ b o, A = some ⟨b, o, none⟩ ∧ b < B ∧ ∀ (j : Nat) x, l[j]? = some x → w.cell? ⟨b, o + j, none⟩ = some (sv x) := by
  obtain ⟨b, o, e, hb, hc⟩ := h.2.2.2 (by omega)
  exact ⟨b, o, e, hb, fun j x hj => hc j _ (by simp [strs, hj])⟩
end Go.Proofs.YtpmmjhpmheooeaaDoor
