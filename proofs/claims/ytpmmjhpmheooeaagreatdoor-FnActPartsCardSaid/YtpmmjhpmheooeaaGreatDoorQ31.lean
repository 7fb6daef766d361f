/- Texts of the proof, joined: Shelf, Text, RightText, PUPure. -/
import Derived.Shelf.Strings.Builder1
import Derived.Shelf.Strings.Builder2
import Derived.Shelf.Strings.OnBuilder
import Derived.Shelf.Strconv.Itoa0
import Derived.Shelf.Strconv.Itoa1
import Derived.Shelf.LaysM
import Derived.Shelf.Strconv.Itoa2
import Derived.Shelf.Strconv.Itoa3
import Derived.Shelf.Strings.Search1
import Derived.Shelf.Strings.Search2
import Derived.Shelf.Strings.Search3
import Derived.Shelf.Strings.Count
import Derived.Shelf.Strings.Shaped
import Derived.Shelf.Strings.Split
import Derived.Shelf.Strings.SplitShaped
import Derived.Shelf.Unicode.DecodeSlow
import Derived.Test.YtpmmjhpmheooeaaGreatDoorProg
import Derived.Test.YtpmmjhpmheooeaaGreatDoorQ0
import Derived.Test.YtpmmjhpmheooeaaGreatDoorQ1
import Derived.Lib.ItoaNum
import Derived.Sort.Grow
import Derived.IntWalk
import Derived.Laws.IdiomStrings
import Derived.Test.YtpmmjhpmheooeaaGreatDoorQ7
import Derived.Test.YtpmmjhpmheooeaaGreatDoorQ12
namespace Go.Proofs.YtpmmjhpmheooeaaGreatDoor
set_option linter.unusedSimpArgs false
set_option linter.unusedVariables false
end Go.Proofs.YtpmmjhpmheooeaaGreatDoor
namespace Go.Proofs
open Go.Shelf
def Tryz.lays156_ren : Go.Shelf.Ren := ⟨fun | 156 => 55 | 165 => 92 | 166 => 93 | 169 => 94 | 240 => 119 | 241 => 120 | 276 => 149 | 277 => 150 | n => n, fun | 31 => 22 | 9 => 9 | 3 => 3 | 4 => 4 | 0 => 0 | 20 => 20 | 72 => 104 | 76 => 108 | 70 => 102 | 37 => 28 | 75 => 107 | 127 => 133 | 164 => 153 | 5 => 5 | 80 => 110 | n => n, fun | n => n⟩
theorem Tryz.lays156 : Go.Proofs.Lays.n156 Tryz.prog Tryz.lays156_ren := {
 mixed := by kernel_rfl
 f156 := Tryz.func55.trans (congrArg some (by kernel_rfl))
 f165 := Tryz.func92.trans (congrArg some (by kernel_rfl))
 f166 := Tryz.func93.trans (congrArg some (by kernel_rfl))
 f169 := Tryz.func94.trans (congrArg some (by kernel_rfl))
 f240 := Tryz.func119.trans (congrArg some (by kernel_rfl))
 f241 := Tryz.func120.trans (congrArg some (by kernel_rfl))
 f276 := Tryz.func149.trans (congrArg some (by kernel_rfl))
 f277 := Tryz.func150.trans (congrArg some (by kernel_rfl))
 t0 := Tryz.underlying0
 a0 := Tryz.isAgg0
 z0 := Tryz.sizeOf0
 v0 := Tryz.zeroValue0
 t3 := Tryz.underlying3
 a3 := Tryz.isAgg3
 z3 := Tryz.sizeOf3
 v3 := Tryz.zeroValue3
 t4 := Tryz.underlying4
 a4 := Tryz.isAgg4
 z4 := Tryz.sizeOf4
 v4 := Tryz.zeroValue4
 t9 := Tryz.underlying9
 a9 := Tryz.isAgg9
 z9 := Tryz.sizeOf9
 v9 := Tryz.zeroValue9
 t20 := Tryz.underlying20
 a20 := Tryz.isAgg20
 z20 := Tryz.sizeOf20
 v20 := Tryz.zeroValue20
 t31 := Tryz.underlying22
 a31 := Tryz.isAgg22
 z31 := Tryz.sizeOf22
 v31 := Tryz.zeroValue22
 t37 := Tryz.underlying28
 a37 := Tryz.isAgg28
 z37 := Tryz.sizeOf28
 v37 := Tryz.zeroValue28
 t70 := Tryz.underlying102
 a70 := Tryz.isAgg102
 z70 := Tryz.sizeOf102
 v70 := Tryz.zeroValue102
 t72 := Tryz.underlying104
 a72 := Tryz.isAgg104
 z72 := Tryz.sizeOf104
 v72 := Tryz.zeroValue104
 t75 := Tryz.underlying107
 a75 := Tryz.isAgg107
 z75 := Tryz.sizeOf107
 v75 := Tryz.zeroValue107
 t76 := Tryz.underlying108
 a76 := Tryz.isAgg108
 z76 := Tryz.sizeOf108
 v76 := Tryz.zeroValue108
 t127 := Tryz.underlying133
 a127 := Tryz.isAgg133
 z127 := Tryz.sizeOf133
 v127 := Tryz.zeroValue133
 t164 := Tryz.underlying153
 a164 := Tryz.isAgg153
 z164 := Tryz.sizeOf153
 v164 := Tryz.zeroValue153 }
theorem Tryz.Builder_Extra_156 : Builder.Extra Tryz.prog Tryz.lays156_ren := {
 sizeBuilder := by kernel_rfl
 liesBuilder := by kernel_rfl
 t5 := Tryz.underlying5
 a5 := Tryz.isAgg5
 z5 := Tryz.sizeOf5
 v5 := Tryz.zeroValue5
 infoByte := by kernel_rfl
 cellsByte := by kernel_rfl
 sizeByte := by kernel_rfl
 neB5 := by decide }
open Go.RowKit in
/-- strings.Join: "Join concatenates the elements of its first argument to create a single string. The separator string sep is placed between elements in the resulting string.": HOWEVER MANY ELEMENTS. Below the heap's end the world is as it was. (LAID: no walk: one application.) -/
theorem Tryz.strings_Join (bk o c : Nat) (xs : List ByteArray) (sep : ByteArray) (w : World) (hcells : ∀ (j : Nat) x, xs[j]? = some x → w.cell? ⟨bk, o + j, none⟩ = some (.string x)) (hbk : bk < w.heap.size) (hN : xs.length ≤ 140737488355328) (hcap : xs.length ≤ c) (hlen : (Lib.join (xs.map (·.data.toList)) sep.data.toList).length ≤ 140737488355328) :
  Calls Tryz.prog 55 #[.slice (some ⟨bk, o, none⟩) xs.length c, .string sep] w fun e w' => e = .returned (.string ⟨(Lib.join (xs.map (·.data.toList)) sep.data.toList).toArray⟩) ∧ Below w.heap.size w w' := Any.strings_Join Tryz.lays156 Tryz.Builder_Extra_156 bk o c xs sep w hcells hbk hN hcap hlen
def Tryz.laysM171_ren : Go.Shelf.Ren := ⟨fun | 171 => 39 | 243 => 69 | 246 => 104 | 283 => 135 | 284 => 136 | 285 => 137 | 286 => 138 | 129 => 155 | 317 => 154 | 318 => 156 | 319 => 157 | 320 => 158 | 337 => 165 | 338 => 166 | n => n, fun | 3 => 3 | 9 => 9 | 2 => 2 | 4 => 4 | 171 => 146 | 0 => 0 | 53 => 147 | 37 => 28 | 5 => 5 | 173 => 150 | 212 => 158 | 51 => 159 | 20 => 20 | 213 => 160 | 46 => 128 | 232 => 172 | 233 => 173 | n => n, fun | 17 => 1 | 18 => 4 | 19 => 5 | n => n⟩
theorem Tryz.laysM171 : Go.Proofs.LaysM.n171 Tryz.prog Tryz.laysM171_ren := {
 mixed := by kernel_rfl
 f129 := Tryz.func155.trans (congrArg some (by kernel_rfl))
 f171 := Tryz.func39.trans (congrArg some (by kernel_rfl))
 f243 := Tryz.func69.trans (congrArg some (by kernel_rfl))
 f246 := Tryz.func104.trans (congrArg some (by kernel_rfl))
 f283 := Tryz.func135.trans (congrArg some (by kernel_rfl))
 f284 := Tryz.func136.trans (congrArg some (by kernel_rfl))
 f285 := Tryz.func137.trans (congrArg some (by kernel_rfl))
 f286 := Tryz.func138.trans (congrArg some (by kernel_rfl))
 f317 := Tryz.func154.trans (congrArg some (by kernel_rfl))
 f318 := Tryz.func156.trans (congrArg some (by kernel_rfl))
 f319 := Tryz.func157.trans (congrArg some (by kernel_rfl))
 f320 := Tryz.func158.trans (congrArg some (by kernel_rfl))
 f337 := Tryz.func165.trans (congrArg some (by kernel_rfl))
 f338 := Tryz.func166.trans (congrArg some (by kernel_rfl))
 t0 := Tryz.underlying0
 a0 := Tryz.isAgg0
 z0 := Tryz.sizeOf0
 v0 := Tryz.zeroValue0
 t2 := Tryz.underlying2
 a2 := Tryz.isAgg2
 z2 := Tryz.sizeOf2
 v2 := Tryz.zeroValue2
 t3 := Tryz.underlying3
 a3 := Tryz.isAgg3
 z3 := Tryz.sizeOf3
 v3 := Tryz.zeroValue3
 t4 := Tryz.underlying4
 a4 := Tryz.isAgg4
 z4 := Tryz.sizeOf4
 v4 := Tryz.zeroValue4
 t5 := Tryz.underlying5
 a5 := Tryz.isAgg5
 z5 := Tryz.sizeOf5
 v5 := Tryz.zeroValue5
 t9 := Tryz.underlying9
 a9 := Tryz.isAgg9
 z9 := Tryz.sizeOf9
 v9 := Tryz.zeroValue9
 t20 := Tryz.underlying20
 a20 := Tryz.isAgg20
 z20 := Tryz.sizeOf20
 v20 := Tryz.zeroValue20
 t37 := Tryz.underlying28
 a37 := Tryz.isAgg28
 z37 := Tryz.sizeOf28
 v37 := Tryz.zeroValue28
 t46 := Tryz.underlying128
 a46 := Tryz.isAgg128
 z46 := Tryz.sizeOf128
 v46 := Tryz.zeroValue128
 t51 := Tryz.underlying159
 a51 := Tryz.isAgg159
 z51 := Tryz.sizeOf159
 v51 := Tryz.zeroValue159
 t53 := Tryz.underlying147
 a53 := Tryz.isAgg147
 z53 := Tryz.sizeOf147
 v53 := Tryz.zeroValue147
 t171 := Tryz.underlying146
 a171 := Tryz.isAgg146
 z171 := Tryz.sizeOf146
 v171 := Tryz.zeroValue146
 t173 := Tryz.underlying150
 a173 := Tryz.isAgg150
 z173 := Tryz.sizeOf150
 v173 := Tryz.zeroValue150
 t212 := Tryz.underlying158
 a212 := Tryz.isAgg158
 z212 := Tryz.sizeOf158
 v212 := Tryz.zeroValue158
 t213 := Tryz.underlying160
 a213 := Tryz.isAgg160
 z213 := Tryz.sizeOf160
 t232 := Tryz.underlying172
 a232 := Tryz.isAgg172
 z232 := Tryz.sizeOf172
 v232 := Tryz.zeroValue172
 t233 := Tryz.underlying173
 a233 := Tryz.isAgg173
 z233 := Tryz.sizeOf173
 v233 := Tryz.zeroValue173
 g17 := by kernel_rfl
 g18 := by kernel_rfl
 g19 := by kernel_rfl
 i0 := by kernel_rfl
 i2 := by kernel_rfl
 i3 := by kernel_rfl
 i4 := by kernel_rfl
 i5 := by kernel_rfl
 i9 := by kernel_rfl
 i20 := by kernel_rfl
 i37 := by kernel_rfl
 i46 := by kernel_rfl
 i51 := by kernel_rfl
 i53 := by kernel_rfl
 i171 := by kernel_rfl
 i173 := by kernel_rfl
 i212 := by kernel_rfl
 i232 := by kernel_rfl
 i233 := by kernel_rfl
 m17 := by kernel_rfl
 m18 := by kernel_rfl
 m19 := by kernel_rfl }
open Go.RowKit Go.Sort Go.Lib in
/-- strconv.Itoa: "Itoa is equivalent to FormatInt(int64(i), 10).": i's DECIMAL NUMERAL ('Lib.itoa': a '-' where i is negative, then the digits), FOR EVERY int. The world behind the call: the world before it, new blocks behind the heap (the library's 'var a [24]byte'), draws. (LAID: no walk: one application.) -/
theorem Tryz.strconv_Itoa (n : Int) (h0 : -9223372036854775808 ≤ n) (h1 : n ≤ 9223372036854775807) (w : World) (htab : Lib.TabIs Tryz.prog w "internal/strconv.uint64pow10" .u64 Lib.pow10Tab) :
  Calls Tryz.prog 39 #[.int .i64 n] w fun e w' => e = .returned (.string ⟨(Lib.itoa n).toArray⟩) ∧ ∃ k os, w' = grow (w.drewN k) os := Any.strconv_Itoa Tryz.laysM171 n h0 h1 w htab
def Tryz.lays146_ren : Go.Shelf.Ren := ⟨fun | 146 => 27 | 221 => 53 | 268 => 89 | 138 => 90 | 143 => 91 | 195 => 115 | 197 => 116 | 218 => 117 | 219 => 118 | 260 => 144 | 217 => 145 | 225 => 146 | 224 => 147 | 267 => 148 | 266 => 160 | 314 => 161 | n => n, fun | 9 => 9 | 31 => 22 | 3 => 3 | 4 => 4 | 0 => 0 | 105 => 130 | 21 => 21 | 5 => 5 | 46 => 128 | 119 => 163 | 139 => 166 | 138 => 165 | 146 => 167 | 51 => 159 | n => n, fun | 1 => 0 | 3 => 2 | 4 => 3 | n => n⟩
theorem Tryz.lays146 : Go.Proofs.Lays.n146 Tryz.prog Tryz.lays146_ren := {
 mixed := by kernel_rfl
 f138 := Tryz.func90.trans (congrArg some (by kernel_rfl))
 f143 := Tryz.func91.trans (congrArg some (by kernel_rfl))
 f146 := Tryz.func27.trans (congrArg some (by kernel_rfl))
 f195 := Tryz.func115.trans (congrArg some (by kernel_rfl))
 f197 := Tryz.func116.trans (congrArg some (by kernel_rfl))
 f217 := Tryz.func145.trans (congrArg some (by kernel_rfl))
 f218 := Tryz.func117.trans (congrArg some (by kernel_rfl))
 f219 := Tryz.func118.trans (congrArg some (by kernel_rfl))
 f221 := Tryz.func53.trans (congrArg some (by kernel_rfl))
 f224 := Tryz.func147.trans (congrArg some (by kernel_rfl))
 f225 := Tryz.func146.trans (congrArg some (by kernel_rfl))
 f260 := Tryz.func144.trans (congrArg some (by kernel_rfl))
 f266 := Tryz.func160.trans (congrArg some (by kernel_rfl))
 f267 := Tryz.func148.trans (congrArg some (by kernel_rfl))
 f268 := Tryz.func89.trans (congrArg some (by kernel_rfl))
 f314 := Tryz.func161.trans (congrArg some (by kernel_rfl))
 t0 := Tryz.underlying0
 a0 := Tryz.isAgg0
 z0 := Tryz.sizeOf0
 v0 := Tryz.zeroValue0
 t3 := Tryz.underlying3
 a3 := Tryz.isAgg3
 z3 := Tryz.sizeOf3
 v3 := Tryz.zeroValue3
 t4 := Tryz.underlying4
 a4 := Tryz.isAgg4
 z4 := Tryz.sizeOf4
 v4 := Tryz.zeroValue4
 t5 := Tryz.underlying5
 a5 := Tryz.isAgg5
 z5 := Tryz.sizeOf5
 v5 := Tryz.zeroValue5
 t9 := Tryz.underlying9
 a9 := Tryz.isAgg9
 z9 := Tryz.sizeOf9
 v9 := Tryz.zeroValue9
 t21 := Tryz.underlying21
 a21 := Tryz.isAgg21
 z21 := Tryz.sizeOf21
 v21 := Tryz.zeroValue21
 t31 := Tryz.underlying22
 a31 := Tryz.isAgg22
 z31 := Tryz.sizeOf22
 v31 := Tryz.zeroValue22
 t46 := Tryz.underlying128
 a46 := Tryz.isAgg128
 z46 := Tryz.sizeOf128
 v46 := Tryz.zeroValue128
 t51 := Tryz.underlying159
 a51 := Tryz.isAgg159
 z51 := Tryz.sizeOf159
 v51 := Tryz.zeroValue159
 t105 := Tryz.underlying130
 a105 := Tryz.isAgg130
 z105 := Tryz.sizeOf130
 v105 := Tryz.zeroValue130
 t119 := Tryz.underlying163
 a119 := Tryz.isAgg163
 z119 := Tryz.sizeOf163
 t138 := Tryz.underlying165
 a138 := Tryz.isAgg165
 z138 := Tryz.sizeOf165
 v138 := Tryz.zeroValue165
 t139 := Tryz.underlying166
 a139 := Tryz.isAgg166
 z139 := Tryz.sizeOf166
 v139 := Tryz.zeroValue166
 t146 := Tryz.underlying167
 a146 := Tryz.isAgg167
 z146 := Tryz.sizeOf167
 v146 := Tryz.zeroValue167
 g1 := by kernel_rfl
 g3 := by kernel_rfl
 g4 := by kernel_rfl }
open Go.RowKit Go.Lib in
/-- strings.Split. (LAID: no walk: one application.) -/
theorem Tryz.strings_Split (s sep : ByteArray) (m : Int) (w : World) (hs : s.size < 4294967281) (hm : w.cell? ⟨0, 0, none⟩ = some (.int .i64 m)) (h1 : 1 ≤ sep.size) :
  Calls Tryz.prog 27 #[.string s, .string sep] w fun e w' =>
   e = .returned (.slice (some ⟨w.heap.size, 0, none⟩) (Lib.countB s sep + 1) (Lib.countB s sep + 1)) ∧ w' = w.alloc (.cells ((Lib.splitB sep 0 (Lib.countB s sep) s).map Value.string).toArray 9) := Any.strings_Split Tryz.lays146 (by kernel_rfl) s sep m w hs hm h1
end Go.Proofs
namespace Go.Proofs.YtpmmjhpmheooeaaGreatDoor
section
open Go.RowKit
set_option maxRecDepth 20000
/-- A string value of these bytes. -/
abbrev sv (l : List UInt8) : Value := .string ⟨l.toArray⟩
/-- The table of powers of ten reads as it was laid. -/
def Tab (w : World) : Prop := Lib.TabIs Tryz.prog w "internal/strconv.uint64pow10" .u64 Lib.pow10Tab
theorem dec_small {u : Nat} (h : u < 10) : Lib.decDigits u = [UInt8.ofNat (48 + u)] := by rw [Lib.decDigits, dif_pos h]
theorem dec_big {u : Nat} (h : ¬ u < 10) : Lib.decDigits u = Lib.decDigits (u / 10) ++ [UInt8.ofNat (48 + u % 10)] := by rw [Lib.decDigits, dif_neg h]
theorem dec_len : ∀ (k u : Nat), u < 10 ^ (k + 1) → (Lib.decDigits u).length ≤ k + 1
 |0, u, h => by rw [dec_small (by omega)]; simp
 |k + 1, u, h => by
  by_cases h0 : u < 10
  ·rw [dec_small h0]; simp
  ·rw [dec_big h0, List.length_append]
   have := dec_len k (u / 10) (by rw [Nat.pow_succ] at h; omega)
   simp; omega
theorem dec_len18 {u : Nat} (h : u ≤ 1000000000000000000) : (Lib.decDigits u).length ≤ 19 := dec_len 18 u (by omega)
theorem itoa_len {n : Int} (h : n ≤ 1000000000000000000) (h' : -1000000000000000000 ≤ n) : (Lib.itoa n).length ≤ 20 := by
 unfold Lib.itoa
 split
 ·simp only [List.length_cons]
  have := dec_len18 (u := n.natAbs) (by omega)
  omega
 ·have := dec_len18 (u := n.toNat) (by omega)
  omega
theorem Tab.below {w w' : World} (h : Tab w) (hb : Below w.heap.size w w') : Tab w' := by
 unfold Tab Lib.TabIs World.var? at *
 cases hg : Tryz.prog.globalNamed "internal/strconv.uint64pow10" with
 |none => rw [hg] at h; cases h
 |some g =>
  rw [hg] at h
  simp only [Option.bind_some] at h ⊢
  cases hh : w.heap[g]? with
  |none => rw [hh] at h; cases h
  |some o =>
   rw [hb.block g (Array.getElem?_eq_some_iff.1 hh).1]
   exact h
theorem FormatInt_any (n : Int) (w : World) (hn : n ≤ 9223372036854775807) (hn' : -9223372036854775808 ≤ n) (ht : Tab w) :
  Calls Tryz.prog 16 #[.int .i64 n] w fun e w' => e = .returned (sv (Lib.itoa n)) ∧ Below w.heap.size w w' := by
 have H := Lib.hid (Tryz.strconv_Itoa n hn' hn w ht)
 go_enter Tryz.func16, Tryz.ntmps16
 go_wp2_with fail
 refine H.out.mono ?_
 rintro e w' ⟨rfl, k, os, rfl⟩
 go_wp2_with fail
 go_ret
 exact ⟨rfl, ⟨rfl, rfl, rfl, by simp [Go.Sort.grow], fun i hi => by simp [Go.Sort.grow, Array.getElem?_append, hi]⟩⟩
theorem FormatInt_t (n : Int) (w : World) (h : -1000000000000000000 ≤ n ∧ n ≤ 1000000000000000000) (ht : Tab w) :
  Calls Tryz.prog 16 #[.int .i64 n] w fun e w' => e = .returned (sv (Lib.itoa n)) ∧ Below w.heap.size w w' := FormatInt_any n w (by omega) (by omega) ht
end
section
open Go.RowKit
set_option maxRecDepth 20000
def fracText (x y : Int) : List UInt8 := if fracOk x y then (if y = 1 then Lib.itoa x else Lib.itoa x ++ 47 :: Lib.itoa y) else []
def rightText (o x y : Int) : List UInt8 := if inB o 1 999 && fracOk x y then Lib.itoa o ++ 58 :: fracText x y else []
theorem fracText_no {x y : Int} (h : fracOk x y = false) : fracText x y = [] := by unfold fracText; rw [h]; rfl
theorem rightText_no {o x y : Int} (h : inB o 1 999 = false ∨ fracOk x y = false) : rightText o x y = [] := by
 unfold rightText; rcases h with h | h <;> simp [h]
theorem sv_mid (a b : List UInt8) (c : UInt8) : Value.string (⟨a.toArray⟩ ++ ⟨#[c]⟩ ++ ⟨b.toArray⟩) = sv (a ++ c :: b) := by
 refine congrArg _ (ByteArray.ext ?_)
 simp
set_option maxHeartbeats 1600000 in
theorem FractionText_any (x y : Int) (w : World) (ht : Tab w) :
  Calls Tryz.prog 105 #[.agg #[.int .i64 x, .int .i64 y]] w fun e w' => e = .returned (sv (fracText x y)) ∧ Below w.heap.size w w' := by
 have hB := Below.refl w.heap.size w
 cases hf : fracOk x y
 ·have E := Lib.hid (fracText_no hf)
  have HC := Lib.hid (fun W => FractionOk_any x y W)
  rw [hf] at HC
  go_enter Tryz.func105, Tryz.ntmps105
  go_wp2_with fail
  first | refine name_world ?_ | refine name_wp ?_
  intro W1 hW
  replace hB : Below w.heap.size w W1 := by rw [hW]; exact tacT
  have hz_W1 : w.heap.size ≤ W1.heap.size := by rw [hW]; exact sT
  replace kb_p : Blk W1 (w.heap.size) 67 #[.int .i64 x, .int .i64 y] := by rw [hW]; exact blkT
  have hLW1_p := kb_p.lt
  try clear kc_p kf_p
  clear hW
  refine (HC.out _).mono ?_
  rintro e w1 ⟨rfl, hb⟩
  replace hB := hB.trans (Below.mono hb hB.size)
  have hz_w1 : W1.heap.size ≤ w1.heap.size := Below.size hb
  replace kb_p := kb_p.mv hb; obtain ⟨kb_p, kc_p, kf_p, hl_p, hn_p⟩ := kb_p
  clear hb
  go_wp2_with fail
  go_ret
  exact ⟨by rw [E.out]; rfl, hB⟩
 have hr := fracOk_iff hf
 have HC := Lib.hid (fun W => FractionOk_any x y W)
 rw [hf] at HC
 have hlx := itoa_len (n := x) (by omega) (by omega)
 have hly := itoa_len (n := y) (by omega) (by omega)
 by_cases hy : y = 1
 ·have E : Hid (fracText x y = Lib.itoa x) := by show _ = _; unfold fracText; rw [hf, if_pos rfl, if_pos hy]
  have d1 : (y == 1) = true := by simpa using hy
  clear hy
  go_enter Tryz.func105, Tryz.ntmps105
  go_wp2_with fail
  first | refine name_world ?_ | refine name_wp ?_
  intro W1 hW
  replace hB : Below w.heap.size w W1 := by rw [hW]; exact tacT
  have hz_W1 : w.heap.size ≤ W1.heap.size := by rw [hW]; exact sT
  replace kb_p : Blk W1 (w.heap.size) 67 #[.int .i64 x, .int .i64 y] := by rw [hW]; exact blkT
  have hLW1_p := kb_p.lt
  try clear kc_p kf_p
  clear hW
  refine (HC.out _).mono ?_
  rintro e w1 ⟨rfl, hb⟩
  replace hB := hB.trans (Below.mono hb hB.size)
  have hz_w1 : W1.heap.size ≤ w1.heap.size := Below.size hb
  replace kb_p := kb_p.mv hb; obtain ⟨kb_p, kc_p, kf_p, hl_p, hn_p⟩ := kb_p
  clear hb
  have HT := Lib.hid (FormatInt_t x w1 (by omega) (ht.below hB))
  go_wp2_with fail
  refine HT.out.mono ?_
  rintro e w2 ⟨rfl, hb⟩
  replace hB := hB.trans (Below.mono hb hB.size)
  have hz_w2 : w1.heap.size ≤ w2.heap.size := Below.size hb
  replace kb_p := kb_p.mv hb; obtain ⟨kb_p, kc_p, kf_p, hl_p, hn_p⟩ := kb_p
  clear hb
  go_wp2_with fail
  go_ret
  exact ⟨by rw [E.out]; rfl, hB⟩
 ·have E : Hid (fracText x y = Lib.itoa x ++ 47 :: Lib.itoa y) := by show _ = _; unfold fracText; rw [hf, if_pos rfl, if_neg hy]
  have d1 : (y == 1) = false := by simpa using hy
  have c1 : ¬ 9223372036854775807 < (Lib.itoa x).length + 1 := by omega
  have c2 : ¬ 9223372036854775807 < (Lib.itoa x).length + 1 + (Lib.itoa y).length := by omega
  go_enter Tryz.func105, Tryz.ntmps105
  go_wp2_with fail
  first | refine name_world ?_ | refine name_wp ?_
  intro W1 hW
  replace hB : Below w.heap.size w W1 := by rw [hW]; exact tacT
  have hz_W1 : w.heap.size ≤ W1.heap.size := by rw [hW]; exact sT
  replace kb_p : Blk W1 (w.heap.size) 67 #[.int .i64 x, .int .i64 y] := by rw [hW]; exact blkT
  have hLW1_p := kb_p.lt
  try clear kc_p kf_p
  clear hW
  refine (HC.out _).mono ?_
  rintro e w1 ⟨rfl, hb⟩
  replace hB := hB.trans (Below.mono hb hB.size)
  have hz_w1 : W1.heap.size ≤ w1.heap.size := Below.size hb
  replace kb_p := kb_p.mv hb; obtain ⟨kb_p, kc_p, kf_p, hl_p, hn_p⟩ := kb_p
  clear hb
  have HT := Lib.hid (ht.below hB)
  have g0 : ∀ (z : NewW w1), z.w.cell? ⟨w.heap.size, 0, none⟩ = some (.int .i64 x) := fun z => NewW.cell (by rw [kc_p]; rfl) z
  have g1 : ∀ (z : NewW w1), z.w.cell? ⟨w.heap.size, 1, none⟩ = some (.int .i64 y) := fun z => NewW.cell (by rw [kc_p]; rfl) z
  go_wp2_with fail
  refine wp_region_new (by kernel_rfl) (by kernel_rfl) ?_
  repeat (go_big_quiet_step ((go_at_call 16; exact NewW.call (FormatInt_t _ _ (by omega) (HT.out.below (NewW.h _))))))
  refine wpQuiet_nil ?_
  intro w2 hw'
  obtain ⟨hx, hw''⟩ := hw'
  have hb2 := hx.h
  rw [← hw''] at hb2
  clear hw'' hx
  clear g0 g1
  replace hB := hB.trans (Below.mono hb2 hB.size)
  have hz_w2 : w1.heap.size ≤ w2.heap.size := Below.size hb2
  replace kb_p := kb_p.mv hb2; obtain ⟨kb_p, kc_p, kf_p, hl_p, hn_p⟩ := kb_p
  clear hb2
  go_wp2_with fail
  go_ret
  refine ⟨?_, hB⟩
  rw [E.out]
  exact congrArg _ (sv_mid _ _ _)
set_option maxHeartbeats 1600000 in
theorem RightText_any (o x y : Int) (w : World) (ht : Tab w) :
  Calls Tryz.prog 70 #[.agg #[.int .i64 o, .int .i64 x, .int .i64 y]] w fun e w' => e = .returned (sv (rightText o x y)) ∧ Below w.heap.size w w' := by
 have hB := Below.refl w.heap.size w
 have HC := Lib.hid (fun W => FractionOk_any x y W)
 cases ho : inB o 1 999
 ·have E := Lib.hid (rightText_no (x := x) (y := y) (.inl ho))
  go_enter Tryz.func70, Tryz.ntmps70
  go_wp2_with (go_at_call 97; refine (within_any _ _ _ _).mono ?_; rintro e w' ⟨rfl, rfl⟩)
  go_ret
  exact ⟨by rw [E.out]; rfl, by exact tacT⟩
 cases hf : fracOk x y
 ·have E := Lib.hid (rightText_no (o := o) (.inr hf))
  rw [hf] at HC
  go_enter Tryz.func70, Tryz.ntmps70
  go_wp2_with (go_at_call 97; refine (within_any _ _ _ _).mono ?_; rintro e w' ⟨rfl, rfl⟩)
  first | refine name_world ?_ | refine name_wp ?_
  intro W1 hW
  replace hB : Below w.heap.size w W1 := by rw [hW]; exact tacT
  have hz_W1 : w.heap.size ≤ W1.heap.size := by rw [hW]; exact sT
  replace kb_p : Blk W1 (w.heap.size) 69 #[.int .i64 o, .int .i64 x, .int .i64 y] := by rw [hW]; exact blkT
  have hLW1_p := kb_p.lt
  try clear kc_p kf_p
  clear hW
  refine (HC.out _).mono ?_
  rintro e w1 ⟨rfl, hb⟩
  replace hB := hB.trans (Below.mono hb hB.size)
  have hz_w1 : W1.heap.size ≤ w1.heap.size := Below.size hb
  replace kb_p := kb_p.mv hb; obtain ⟨kb_p, kc_p, kf_p, hl_p, hn_p⟩ := kb_p
  clear hb
  go_wp2_with fail
  go_ret
  exact ⟨by rw [E.out]; rfl, hB⟩
 have E : Hid (rightText o x y = Lib.itoa o ++ 58 :: fracText x y) := by show _ = _; unfold rightText; rw [ho, hf]; rfl
 have hr := fracOk_iff hf
 have hoo := inB_iff.1 ho
 have hlx := itoa_len (n := o) (by omega) (by omega)
 have hly : (fracText x y).length ≤ 50 := by
  have h1 := itoa_len (n := x) (by omega) (by omega)
  have h2 := itoa_len (n := y) (by omega) (by omega)
  unfold fracText
  rw [hf, if_pos rfl]
  split
  ·omega
  ·rw [List.length_append, List.length_cons]; omega
 have c1 : ¬ 9223372036854775807 < (Lib.itoa o).length + 1 := by omega
 have c2 : ¬ 9223372036854775807 < (Lib.itoa o).length + 1 + (fracText x y).length := by omega
 rw [hf] at HC
 go_enter Tryz.func70, Tryz.ntmps70
 go_wp2_with (go_at_call 97; refine (within_any _ _ _ _).mono ?_; rintro e w' ⟨rfl, rfl⟩)
 first | refine name_world ?_ | refine name_wp ?_
 intro W1 hW
 replace hB : Below w.heap.size w W1 := by rw [hW]; exact tacT
 have hz_W1 : w.heap.size ≤ W1.heap.size := by rw [hW]; exact sT
 replace kb_p : Blk W1 (w.heap.size) 69 #[.int .i64 o, .int .i64 x, .int .i64 y] := by rw [hW]; exact blkT
 have hLW1_p := kb_p.lt
 try clear kc_p kf_p
 clear hW
 refine (HC.out _).mono ?_
 rintro e w1 ⟨rfl, hb⟩
 replace hB := hB.trans (Below.mono hb hB.size)
 have hz_w1 : W1.heap.size ≤ w1.heap.size := Below.size hb
 replace kb_p := kb_p.mv hb; obtain ⟨kb_p, kc_p, kf_p, hl_p, hn_p⟩ := kb_p
 clear hb
 have HT := Lib.hid (ht.below hB)
 have g0 : ∀ (z : NewW w1), z.w.cell? ⟨w.heap.size, 0, none⟩ = some (.int .i64 o) := fun z => NewW.cell (by rw [kc_p]; rfl) z
 have g1 : ∀ (z : NewW w1), z.w.cell? ⟨w.heap.size, 1, none⟩ = some (.int .i64 x) := fun z => NewW.cell (by rw [kc_p]; rfl) z
 have g2 : ∀ (z : NewW w1), z.w.cell? ⟨w.heap.size, 2, none⟩ = some (.int .i64 y) := fun z => NewW.cell (by rw [kc_p]; rfl) z
 go_wp2_with fail
 refine wp_region_new (by kernel_rfl) (by kernel_rfl) ?_
 repeat (go_big_quiet_step ((first | (go_at_call 16; exact NewW.call (FormatInt_t _ _ (by omega) (HT.out.below (NewW.h _)))) | (go_at_call 105; exact NewW.call (FractionText_any _ _ _ (HT.out.below (NewW.h _)))))))
 refine wpQuiet_nil ?_
 intro w2 hw'
 obtain ⟨hx, hw''⟩ := hw'
 have hb2 := hx.h
 rw [← hw''] at hb2
 clear hw'' hx
 clear g0 g1 g2
 replace hB := hB.trans (Below.mono hb2 hB.size)
 have hz_w2 : w1.heap.size ≤ w2.heap.size := Below.size hb2
 replace kb_p := kb_p.mv hb2; obtain ⟨kb_p, kc_p, kf_p, hl_p, hn_p⟩ := kb_p
 clear hb2
 go_wp2_with fail
 go_ret
 refine ⟨?_, hB⟩
 rw [E.out]
 exact congrArg _ (sv_mid _ _ _)
end
section
open Go.RowKit
set_option maxRecDepth 20000
def dig (b : UInt8) : Bool := decide (48 ≤ b.toNat) && decide (b.toNat ≤ 57)
def pval (acc : Nat) (l : List UInt8) : Nat := l.foldl (fun n b => 10 * n + (b.toNat - 48)) acc
def puOk (s : List UInt8) : Bool := decide (s.length ≤ 10) && s.all dig && decide (pval 0 s ≤ 1000000000) && decide (Lib.itoa (pval 0 s) = s)
def puVal (s : List UInt8) : Nat := if puOk s then pval 0 s else 0
theorem pval_cons (acc : Nat) (b : UInt8) (r : List UInt8) : pval acc (b :: r) = pval (10 * acc + (b.toNat - 48)) r := by unfold pval; rw [List.foldl_cons]
theorem pval_snoc : ∀ (r : List UInt8) (acc : Nat) (b : UInt8), pval acc (r ++ [b]) = 10 * pval acc r + (b.toNat - 48)
 | [], _, _ => rfl
 |x :: r, acc, b => by rw [List.cons_append, pval_cons, pval_cons]; exact pval_snoc r _ b
theorem pval_step {s : List UInt8} {k : Nat} {b : UInt8} (h : s[k]? = some b) : pval 0 (s.take (k + 1)) = 10 * pval 0 (s.take k) + (b.toNat - 48) := by
 have : s.take (k + 1) = s.take k ++ [b] := by rw [List.take_add_one, h]; rfl
 rw [this, pval_snoc]
theorem digs_step {s : List UInt8} {k : Nat} {b : UInt8} (h : s[k]? = some b) : (s.take (k + 1)).all dig = ((s.take k).all dig && dig b) := by
 have : s.take (k + 1) = s.take k ++ [b] := by rw [List.take_add_one, h]; rfl
 rw [this]; simp
theorem pval_lt : ∀ (s : List UInt8), s.all dig = true → ∀ acc, pval acc s < (acc + 1) * 10 ^ s.length
 | [], _, acc => by show acc < _; rw [List.length_nil, Nat.pow_zero]; omega
 |b :: r, h, acc => by
  simp only [List.all_cons, Bool.and_eq_true] at h
  have hb : b.toNat ≤ 57 := by have := h.1; unfold dig at this; simp at this; exact this.2
  have h1 := pval_lt r h.2 (10 * acc + (b.toNat - 48))
  rw [pval_cons, List.length_cons, Nat.pow_succ]
  have h2 : (10 * acc + (b.toNat - 48) + 1) * 10 ^ r.length ≤ ((acc + 1) * 10) * 10 ^ r.length := Nat.mul_le_mul_right _ (by omega)
  have h3 : (acc + 1) * 10 * 10 ^ r.length = (acc + 1) * (10 ^ r.length * 10) := by rw [Nat.mul_assoc, Nat.mul_comm 10]
  omega
theorem pval_10 {s : List UInt8} (h : s.all dig = true) (hl : s.length ≤ 10) : pval 0 s < 10000000000 := by
 have h1 := pval_lt s h 0
 have h2 : 10 ^ s.length ≤ 10 ^ 10 := Nat.pow_le_pow_right (by omega) hl
 omega
theorem take_digs {s : List UInt8} {k : Nat} (h : (s.take k).all dig = true) (hl : s.length ≤ 10) : pval 0 (s.take k) < 10000000000 :=
 pval_10 h (by rw [List.length_take]; omega)
theorem pu_long {s : List UInt8} (h : 10 < s.length) : puOk s = false := by unfold puOk; rw [decide_eq_false (by omega)]; rfl
theorem pu_nodig {s : List UInt8} {k : Nat} {b : UInt8} (h : s[k]? = some b) (hb : dig b = false) : puOk s = false := by
 have : s.all dig = false := by rw [List.all_eq_false]; exact ⟨b, List.mem_of_getElem? h, by rw [hb]; simp⟩
 unfold puOk; rw [this]; simp
theorem pu_empty : puOk [] = false := by
 unfold puOk
 have h : Lib.itoa ((pval 0 [] : Nat) : Int) ≠ [] := by
  show Lib.itoa 0 ≠ []
  unfold Lib.itoa
  rw [if_neg (by omega), dec_small (by simp)]
  simp
 rw [decide_eq_false h]; simp
theorem puVal_no {s : List UInt8} (h : puOk s = false) : puVal s = 0 := by unfold puVal; rw [h]; rfl
theorem puVal_yes {s : List UInt8} (h : puOk s = true) : puVal s = pval 0 s := by unfold puVal; rw [h]; rfl
theorem fig_nat {r : Nat} (h : r < 10) : (UInt8.ofNat (48 + r)).toNat = 48 + r := by
 rw [UInt8.toNat_ofNat']; omega
theorem dig_fig {r : Nat} (h : r < 10) : dig (UInt8.ofNat (48 + r)) = true := by
 unfold dig; rw [fig_nat h]; simp; omega
theorem dec_digs : ∀ (n u : Nat), u ≤ n → (Lib.decDigits u).all dig = true
 |n, u, hu => by
  by_cases h : u < 10
  ·rw [dec_small h, List.all_cons, dig_fig h]; rfl
  ·rw [dec_big h, List.all_append]
   cases n with
   |zero => omega
   |succ n =>
    rw [dec_digs n (u / 10) (by omega)]
    rw [List.all_cons, dig_fig (Nat.mod_lt u (by omega : 10 > 0))]; rfl
theorem dec_val : ∀ (n u : Nat), u ≤ n → pval 0 (Lib.decDigits u) = u
 |n, u, hu => by
  by_cases h : u < 10
  ·rw [dec_small h]
   show 10 * 0 + ((UInt8.ofNat (48 + u)).toNat - 48) = u
   rw [fig_nat h]; omega
  ·rw [dec_big h, pval_snoc, fig_nat (Nat.mod_lt u (by omega : 10 > 0))]
   cases n with
   |zero => omega
   |succ n => rw [dec_val n (u / 10) (by omega)]; omega
theorem itoa_nat (n : Nat) : Lib.itoa (n : Int) = Lib.decDigits n := by
 unfold Lib.itoa; rw [if_neg (by omega)]; rfl
theorem pu_itoa {n : Nat} (h : n ≤ 1000000000) : puOk (Lib.itoa n) = true ∧ puVal (Lib.itoa n) = n := by
 have h1 : puOk (Lib.itoa n) = true := by
  unfold puOk
  rw [itoa_nat, dec_digs n n (Nat.le_refl _), dec_val n n (Nat.le_refl _), itoa_nat, decide_eq_true (dec_len 9 n (by omega)), decide_eq_true h]
  simp
 exact ⟨h1, by rw [puVal_yes h1, itoa_nat, dec_val n n (Nat.le_refl _)]⟩
end
end Go.Proofs.YtpmmjhpmheooeaaGreatDoor
