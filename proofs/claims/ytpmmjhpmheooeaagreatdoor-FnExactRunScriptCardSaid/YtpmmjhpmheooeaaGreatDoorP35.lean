/- Texts of the proof, joined: Shelf, Text. -/
import Derived.Shelf.Strings.Builder1
import Derived.Shelf.Strings.Builder2
import Derived.Shelf.Strings.OnBuilder
import Derived.Shelf.Strconv.Itoa0
import Derived.Shelf.Strconv.Itoa1
import Derived.Shelf.LaysM
import Derived.Shelf.Strconv.Itoa2
import Derived.Shelf.Strconv.Itoa3
import Derived.Shelf.Strings.Search1
import Derived.Shelf.Strings.Search2
import Derived.Shelf.Strings.Search3
import Derived.Shelf.Strings.Count
import Derived.Shelf.Strings.Shaped
import Derived.Shelf.Strings.Split
import Derived.Shelf.Strings.SplitShaped
import Derived.Shelf.Unicode.DecodeSlow
import Derived.Test.YtpmmjhpmheooeaaGreatDoorProg
import Derived.Test.YtpmmjhpmheooeaaGreatDoorP0
import Derived.Test.YtpmmjhpmheooeaaGreatDoorP1
import Derived.Lib.ItoaNum
import Derived.Sort.Grow
import Derived.IntWalk
import Derived.Laws.IdiomStrings
namespace Go.Proofs.YtpmmjhpmheooeaaGreatDoor
set_option linter.unusedSimpArgs false
set_option linter.unusedVariables false
end Go.Proofs.YtpmmjhpmheooeaaGreatDoor
namespace Go.Proofs
open Go.Shelf
def Tryz.lays156_ren : Go.Shelf.Ren := ⟨fun | 156 => 55 | 165 => 92 | 166 => 93 | 169 => 94 | 240 => 119 | 241 => 120 | 276 => 149 | 277 => 150 | n => n, fun | 31 => 22 | 9 => 9 | 3 => 3 | 4 => 4 | 0 => 0 | 20 => 20 | 72 => 104 | 76 => 108 | 70 => 102 | 37 => 28 | 75 => 107 | 127 => 133 | 164 => 153 | 5 => 5 | 80 => 110 | n => n, fun | n => n⟩
theorem Tryz.lays156 : Go.Proofs.Lays.n156 Tryz.prog Tryz.lays156_ren := {
 mixed := by kernel_rfl
 f156 := Tryz.func55.trans (congrArg some (by kernel_rfl))
 f165 := Tryz.func92.trans (congrArg some (by kernel_rfl))
 f166 := Tryz.func93.trans (congrArg some (by kernel_rfl))
 f169 := Tryz.func94.trans (congrArg some (by kernel_rfl))
 f240 := Tryz.func119.trans (congrArg some (by kernel_rfl))
 f241 := Tryz.func120.trans (congrArg some (by kernel_rfl))
 f276 := Tryz.func149.trans (congrArg some (by kernel_rfl))
 f277 := Tryz.func150.trans (congrArg some (by kernel_rfl))
 t0 := Tryz.underlying0
 a0 := Tryz.isAgg0
 z0 := Tryz.sizeOf0
 v0 := Tryz.zeroValue0
 t3 := Tryz.underlying3
 a3 := Tryz.isAgg3
 z3 := Tryz.sizeOf3
 v3 := Tryz.zeroValue3
 t4 := Tryz.underlying4
 a4 := Tryz.isAgg4
 z4 := Tryz.sizeOf4
 v4 := Tryz.zeroValue4
 t9 := Tryz.underlying9
 a9 := Tryz.isAgg9
 z9 := Tryz.sizeOf9
 v9 := Tryz.zeroValue9
 t20 := Tryz.underlying20
 a20 := Tryz.isAgg20
 z20 := Tryz.sizeOf20
 v20 := Tryz.zeroValue20
 t31 := Tryz.underlying22
 a31 := Tryz.isAgg22
 z31 := Tryz.sizeOf22
 v31 := Tryz.zeroValue22
 t37 := Tryz.underlying28
 a37 := Tryz.isAgg28
 z37 := Tryz.sizeOf28
 v37 := Tryz.zeroValue28
 t70 := Tryz.underlying102
 a70 := Tryz.isAgg102
 z70 := Tryz.sizeOf102
 v70 := Tryz.zeroValue102
 t72 := Tryz.underlying104
 a72 := Tryz.isAgg104
 z72 := Tryz.sizeOf104
 v72 := Tryz.zeroValue104
 t75 := Tryz.underlying107
 a75 := Tryz.isAgg107
 z75 := Tryz.sizeOf107
 v75 := Tryz.zeroValue107
 t76 := Tryz.underlying108
 a76 := Tryz.isAgg108
 z76 := Tryz.sizeOf108
 v76 := Tryz.zeroValue108
 t127 := Tryz.underlying133
 a127 := Tryz.isAgg133
 z127 := Tryz.sizeOf133
 v127 := Tryz.zeroValue133
 t164 := Tryz.underlying153
 a164 := Tryz.isAgg153
 z164 := Tryz.sizeOf153
 v164 := Tryz.zeroValue153 }
theorem Tryz.Builder_Extra_156 : Builder.Extra Tryz.prog Tryz.lays156_ren := {
 sizeBuilder := by kernel_rfl
 liesBuilder := by kernel_rfl
 t5 := Tryz.underlying5
 a5 := Tryz.isAgg5
 z5 := Tryz.sizeOf5
 v5 := Tryz.zeroValue5
 infoByte := by kernel_rfl
 cellsByte := by kernel_rfl
 sizeByte := by kernel_rfl
 neB5 := by decide }
open Go.RowKit in
/-- strings.Join: "Join concatenates the elements of its first argument to create a single string. The separator string sep is placed between elements in the resulting string.": HOWEVER MANY ELEMENTS. Below the heap's end the world is as it was. (LAID: no walk: one application.) -/
theorem Tryz.strings_Join (bk o c : Nat) (xs : List ByteArray) (sep : ByteArray) (w : World) (hcells : ∀ (j : Nat) x, xs[j]? = some x → w.cell? ⟨bk, o + j, none⟩ = some (.string x)) (hbk : bk < w.heap.size) (hN : xs.length ≤ 140737488355328) (hcap : xs.length ≤ c) (hlen : (Lib.join (xs.map (·.data.toList)) sep.data.toList).length ≤ 140737488355328) :
  Calls Tryz.prog 55 #[.slice (some ⟨bk, o, none⟩) xs.length c, .string sep] w fun e w' => e = .returned (.string ⟨(Lib.join (xs.map (·.data.toList)) sep.data.toList).toArray⟩) ∧ Below w.heap.size w w' := Any.strings_Join Tryz.lays156 Tryz.Builder_Extra_156 bk o c xs sep w hcells hbk hN hcap hlen
def Tryz.laysM171_ren : Go.Shelf.Ren := ⟨fun | 171 => 39 | 243 => 69 | 246 => 104 | 283 => 135 | 284 => 136 | 285 => 137 | 286 => 138 | 129 => 155 | 317 => 154 | 318 => 156 | 319 => 157 | 320 => 158 | 337 => 165 | 338 => 166 | n => n, fun | 3 => 3 | 9 => 9 | 2 => 2 | 4 => 4 | 171 => 146 | 0 => 0 | 53 => 147 | 37 => 28 | 5 => 5 | 173 => 150 | 212 => 158 | 51 => 159 | 20 => 20 | 213 => 160 | 46 => 128 | 232 => 172 | 233 => 173 | n => n, fun | 17 => 1 | 18 => 4 | 19 => 5 | n => n⟩
theorem Tryz.laysM171 : Go.Proofs.LaysM.n171 Tryz.prog Tryz.laysM171_ren := {
 mixed := by kernel_rfl
 f129 := Tryz.func155.trans (congrArg some (by kernel_rfl))
 f171 := Tryz.func39.trans (congrArg some (by kernel_rfl))
 f243 := Tryz.func69.trans (congrArg some (by kernel_rfl))
 f246 := Tryz.func104.trans (congrArg some (by kernel_rfl))
 f283 := Tryz.func135.trans (congrArg some (by kernel_rfl))
 f284 := Tryz.func136.trans (congrArg some (by kernel_rfl))
 f285 := Tryz.func137.trans (congrArg some (by kernel_rfl))
 f286 := Tryz.func138.trans (congrArg some (by kernel_rfl))
 f317 := Tryz.func154.trans (congrArg some (by kernel_rfl))
 f318 := Tryz.func156.trans (congrArg some (by kernel_rfl))
 f319 := Tryz.func157.trans (congrArg some (by kernel_rfl))
 f320 := Tryz.func158.trans (congrArg some (by kernel_rfl))
 f337 := Tryz.func165.trans (congrArg some (by kernel_rfl))
 f338 := Tryz.func166.trans (congrArg some (by kernel_rfl))
 t0 := Tryz.underlying0
 a0 := Tryz.isAgg0
 z0 := Tryz.sizeOf0
 v0 := Tryz.zeroValue0
 t2 := Tryz.underlying2
 a2 := Tryz.isAgg2
 z2 := Tryz.sizeOf2
 v2 := Tryz.zeroValue2
 t3 := Tryz.underlying3
 a3 := Tryz.isAgg3
 z3 := Tryz.sizeOf3
 v3 := Tryz.zeroValue3
 t4 := Tryz.underlying4
 a4 := Tryz.isAgg4
 z4 := Tryz.sizeOf4
 v4 := Tryz.zeroValue4
 t5 := Tryz.underlying5
 a5 := Tryz.isAgg5
 z5 := Tryz.sizeOf5
 v5 := Tryz.zeroValue5
 t9 := Tryz.underlying9
 a9 := Tryz.isAgg9
 z9 := Tryz.sizeOf9
 v9 := Tryz.zeroValue9
 t20 := Tryz.underlying20
 a20 := Tryz.isAgg20
 z20 := Tryz.sizeOf20
 v20 := Tryz.zeroValue20
 t37 := Tryz.underlying28
 a37 := Tryz.isAgg28
 z37 := Tryz.sizeOf28
 v37 := Tryz.zeroValue28
 t46 := Tryz.underlying128
 a46 := Tryz.isAgg128
 z46 := Tryz.sizeOf128
 v46 := Tryz.zeroValue128
 t51 := Tryz.underlying159
 a51 := Tryz.isAgg159
 z51 := Tryz.sizeOf159
 v51 := Tryz.zeroValue159
 t53 := Tryz.underlying147
 a53 := Tryz.isAgg147
 z53 := Tryz.sizeOf147
 v53 := Tryz.zeroValue147
 t171 := Tryz.underlying146
 a171 := Tryz.isAgg146
 z171 := Tryz.sizeOf146
 v171 := Tryz.zeroValue146
 t173 := Tryz.underlying150
 a173 := Tryz.isAgg150
 z173 := Tryz.sizeOf150
 v173 := Tryz.zeroValue150
 t212 := Tryz.underlying158
 a212 := Tryz.isAgg158
 z212 := Tryz.sizeOf158
 v212 := Tryz.zeroValue158
 t213 := Tryz.underlying160
 a213 := Tryz.isAgg160
 z213 := Tryz.sizeOf160
 t232 := Tryz.underlying172
 a232 := Tryz.isAgg172
 z232 := Tryz.sizeOf172
 v232 := Tryz.zeroValue172
 t233 := Tryz.underlying173
 a233 := Tryz.isAgg173
 z233 := Tryz.sizeOf173
 v233 := Tryz.zeroValue173
 g17 := by kernel_rfl
 g18 := by kernel_rfl
 g19 := by kernel_rfl
 i0 := by kernel_rfl
 i2 := by kernel_rfl
 i3 := by kernel_rfl
 i4 := by kernel_rfl
 i5 := by kernel_rfl
 i9 := by kernel_rfl
 i20 := by kernel_rfl
 i37 := by kernel_rfl
 i46 := by kernel_rfl
 i51 := by kernel_rfl
 i53 := by kernel_rfl
 i171 := by kernel_rfl
 i173 := by kernel_rfl
 i212 := by kernel_rfl
 i232 := by kernel_rfl
 i233 := by kernel_rfl
 m17 := by kernel_rfl
 m18 := by kernel_rfl
 m19 := by kernel_rfl }
open Go.RowKit Go.Sort Go.Lib in
/-- strconv.Itoa: "Itoa is equivalent to FormatInt(int64(i), 10).": i's DECIMAL NUMERAL ('Lib.itoa': a '-' where i is negative, then the digits), FOR EVERY int. The world behind the call: the world before it, new blocks behind the heap (the library's 'var a [24]byte'), draws. (LAID: no walk: one application.) -/
theorem Tryz.strconv_Itoa (n : Int) (h0 : -9223372036854775808 ≤ n) (h1 : n ≤ 9223372036854775807) (w : World) (htab : Lib.TabIs Tryz.prog w "internal/strconv.uint64pow10" .u64 Lib.pow10Tab) :
  Calls Tryz.prog 39 #[.int .i64 n] w fun e w' => e = .returned (.string ⟨(Lib.itoa n).toArray⟩) ∧ ∃ k os, w' = grow (w.drewN k) os := Any.strconv_Itoa Tryz.laysM171 n h0 h1 w htab
def Tryz.lays146_ren : Go.Shelf.Ren := ⟨fun | 146 => 27 | 221 => 53 | 268 => 89 | 138 => 90 | 143 => 91 | 195 => 115 | 197 => 116 | 218 => 117 | 219 => 118 | 260 => 144 | 217 => 145 | 225 => 146 | 224 => 147 | 267 => 148 | 266 => 160 | 314 => 161 | n => n, fun | 9 => 9 | 31 => 22 | 3 => 3 | 4 => 4 | 0 => 0 | 105 => 130 | 21 => 21 | 5 => 5 | 46 => 128 | 119 => 163 | 139 => 166 | 138 => 165 | 146 => 167 | 51 => 159 | n => n, fun | 1 => 0 | 3 => 2 | 4 => 3 | n => n⟩
theorem Tryz.lays146 : Go.Proofs.Lays.n146 Tryz.prog Tryz.lays146_ren := {
 mixed := by kernel_rfl
 f138 := Tryz.func90.trans (congrArg some (by kernel_rfl))
 f143 := Tryz.func91.trans (congrArg some (by kernel_rfl))
 f146 := Tryz.func27.trans (congrArg some (by kernel_rfl))
 f195 := Tryz.func115.trans (congrArg some (by kernel_rfl))
 f197 := Tryz.func116.trans (congrArg some (by kernel_rfl))
 f217 := Tryz.func145.trans (congrArg some (by kernel_rfl))
 f218 := Tryz.func117.trans (congrArg some (by kernel_rfl))
 f219 := Tryz.func118.trans (congrArg some (by kernel_rfl))
 f221 := Tryz.func53.trans (congrArg some (by kernel_rfl))
 f224 := Tryz.func147.trans (congrArg some (by kernel_rfl))
 f225 := Tryz.func146.trans (congrArg some (by kernel_rfl))
 f260 := Tryz.func144.trans (congrArg some (by kernel_rfl))
 f266 := Tryz.func160.trans (congrArg some (by kernel_rfl))
 f267 := Tryz.func148.trans (congrArg some (by kernel_rfl))
 f268 := Tryz.func89.trans (congrArg some (by kernel_rfl))
 f314 := Tryz.func161.trans (congrArg some (by kernel_rfl))
 t0 := Tryz.underlying0
 a0 := Tryz.isAgg0
 z0 := Tryz.sizeOf0
 v0 := Tryz.zeroValue0
 t3 := Tryz.underlying3
 a3 := Tryz.isAgg3
 z3 := Tryz.sizeOf3
 v3 := Tryz.zeroValue3
 t4 := Tryz.underlying4
 a4 := Tryz.isAgg4
 z4 := Tryz.sizeOf4
 v4 := Tryz.zeroValue4
 t5 := Tryz.underlying5
 a5 := Tryz.isAgg5
 z5 := Tryz.sizeOf5
 v5 := Tryz.zeroValue5
 t9 := Tryz.underlying9
 a9 := Tryz.isAgg9
 z9 := Tryz.sizeOf9
 v9 := Tryz.zeroValue9
 t21 := Tryz.underlying21
 a21 := Tryz.isAgg21
 z21 := Tryz.sizeOf21
 v21 := Tryz.zeroValue21
 t31 := Tryz.underlying22
 a31 := Tryz.isAgg22
 z31 := Tryz.sizeOf22
 v31 := Tryz.zeroValue22
 t46 := Tryz.underlying128
 a46 := Tryz.isAgg128
 z46 := Tryz.sizeOf128
 v46 := Tryz.zeroValue128
 t51 := Tryz.underlying159
 a51 := Tryz.isAgg159
 z51 := Tryz.sizeOf159
 v51 := Tryz.zeroValue159
 t105 := Tryz.underlying130
 a105 := Tryz.isAgg130
 z105 := Tryz.sizeOf130
 v105 := Tryz.zeroValue130
 t119 := Tryz.underlying163
 a119 := Tryz.isAgg163
 z119 := Tryz.sizeOf163
 t138 := Tryz.underlying165
 a138 := Tryz.isAgg165
 z138 := Tryz.sizeOf165
 v138 := Tryz.zeroValue165
 t139 := Tryz.underlying166
 a139 := Tryz.isAgg166
 z139 := Tryz.sizeOf166
 v139 := Tryz.zeroValue166
 t146 := Tryz.underlying167
 a146 := Tryz.isAgg167
 z146 := Tryz.sizeOf167
 v146 := Tryz.zeroValue167
 g1 := by kernel_rfl
 g3 := by kernel_rfl
 g4 := by kernel_rfl }
open Go.RowKit Go.Lib in
/-- strings.Split. (LAID: no walk: one application.) -/
theorem Tryz.strings_Split (s sep : ByteArray) (m : Int) (w : World) (hs : s.size < 4294967281) (hm : w.cell? ⟨0, 0, none⟩ = some (.int .i64 m)) (h1 : 1 ≤ sep.size) :
  Calls Tryz.prog 27 #[.string s, .string sep] w fun e w' =>
   e = .returned (.slice (some ⟨w.heap.size, 0, none⟩) (Lib.countB s sep + 1) (Lib.countB s sep + 1)) ∧ w' = w.alloc (.cells ((Lib.splitB sep 0 (Lib.countB s sep) s).map Value.string).toArray 9) := Any.strings_Split Tryz.lays146 (by kernel_rfl) s sep m w hs hm h1
end Go.Proofs
namespace Go.Proofs.YtpmmjhpmheooeaaGreatDoor
section
open Go.RowKit
set_option maxRecDepth 20000
/-- A string value of these bytes. -/
abbrev sv (l : List UInt8) : Value := .string ⟨l.toArray⟩
/-- The table of powers of ten reads as it was laid. -/
def Tab (w : World) : Prop := Lib.TabIs Tryz.prog w "internal/strconv.uint64pow10" .u64 Lib.pow10Tab
theorem dec_small {u : Nat} (h : u < 10) : Lib.decDigits u = [UInt8.ofNat (48 + u)] := by rw [Lib.decDigits, dif_pos h]
theorem dec_big {u : Nat} (h : ¬ u < 10) : Lib.decDigits u = Lib.decDigits (u / 10) ++ [UInt8.ofNat (48 + u % 10)] := by rw [Lib.decDigits, dif_neg h]
theorem l01Figure_any (d : Nat) (w : World) (h : d < 10) :
  Calls Tryz.prog 50 #[.int .i64 d] w fun e w' => e = .returned (.int .u8 (48 + d)) ∧ w = w' := by
 have h1 : (d : Int) < 10 := by omega
 have h2 : IntKind.u8.wrap (48 + (d : Int)) = 48 + d := by rw [IntKind.wrap]; simp [IntKind.bits, IntKind.signed] <;> omega
 go_enter Tryz.func50, Tryz.ntmps50
 go_wp2_with fail
 go_ret
 exact ⟨rfl, rfl⟩
theorem sv_app (a b : List UInt8) : Value.string ((⟨a.toArray⟩ : ByteArray) ++ ⟨b.toArray⟩) = sv (a ++ b) := by
 congr 1
theorem dec_len : ∀ (k u : Nat), u < 10 ^ (k + 1) → (Lib.decDigits u).length ≤ k + 1
 |0, u, h => by rw [dec_small (by omega)]; simp
 |k + 1, u, h => by
  by_cases h0 : u < 10
  ·rw [dec_small h0]; simp
  ·rw [dec_big h0, List.length_append]
   have := dec_len k (u / 10) (by rw [Nat.pow_succ] at h; omega)
   simp; omega
theorem dec_len18 {u : Nat} (h : u ≤ 1000000000000000000) : (Lib.decDigits u).length ≤ 19 := dec_len 18 u (by omega)
theorem itoa_len {n : Int} (h : n ≤ 1000000000000000000) (h' : -1000000000000000000 ≤ n) : (Lib.itoa n).length ≤ 20 := by
 unfold Lib.itoa
 split
 ·simp only [List.length_cons]
  have := dec_len18 (u := n.natAbs) (by omega)
  omega
 ·have := dec_len18 (u := n.toNat) (by omega)
  omega
theorem fig_eq (r : Nat) : (48 : UInt8) + UInt8.ofNat r = UInt8.ofNat (48 + r) := by simp
theorem conv1 (W : World) (r : Nat) (h : r < 10) : (convert 28 9 (.slice (some ⟨W.heap.size, 0, none⟩) 1 1)).run Tryz.prog (W.alloc (.cells #[.int .u8 (48 + (r : Int))] 5)) = .ok (sv [UInt8.ofNat (48 + r)]) (W.alloc (.cells #[.int .u8 (48 + (r : Int))] 5)) := by
 refine run_convert_bytes_back _ _ _ 5 ⟨W.heap.size, 0, none⟩ 1 [UInt8.ofNat (48 + r)] Tryz.underlying28 Tryz.underlying5 Tryz.underlying9 (fun j hj => ?_)
 have hj0 : j = 0 := by simp at hj; omega
 subst hj0
 have e : (([UInt8.ofNat (48 + r)][0]'hj).toNat : Int) = 48 + (r : Int) := by
  show ((UInt8.ofNat (48 + r)).toNat : Int) = _
  rw [UInt8.toNat_ofNat']
  omega
 rw [e]
 simp [go_sem]
set_option maxHeartbeats 1600000 in
theorem FormatIntS_any (n : Int) (w : World) (hn : n ≤ 1000000000000000000) (hn' : -1000000000000000000 ≤ n) :
  Calls Tryz.prog 25 #[.int .i64 n] w fun e w' => e = .returned (sv (Lib.itoa n)) ∧ Below w.heap.size w w' := by
 by_cases h0 : n = 0
 ·subst h0
  go_enter Tryz.func25, Tryz.ntmps25
  go_wp2_with fail
  go_ret
  exact ⟨by unfold Lib.itoa; rw [if_neg (by omega)]; rw [show (0 : Int).toNat = 0 from rfl, dec_small (by omega)]; rfl, by exact tacT⟩
 have d0 : (n == 0) = false := by simpa using h0
 obtain ⟨u, hu⟩ : ∃ u, u = n.natAbs := ⟨_, rfl⟩
 have hu0 : 0 < u := by omega
 have hu1 : u ≤ 1000000000000000000 := by omega
 have hul := dec_len18 hu1
 by_cases hneg : n < 0
 ·have hit : Hid (Lib.itoa n = 45 :: Lib.decDigits u) := by show _ = _; unfold Lib.itoa; rw [if_pos hneg, ← hu]
  obtain rfl : n = -(u : Int) := by omega
  clear hu
  go_enter Tryz.func25, Tryz.ntmps25
  go_wp2_with fail
  go_loopw [0, 4] (fun nv s wr => ∃ (v : Nat) (l : List UInt8), v ≤ u ∧ nv = .int .i64 (-(v : Int)) ∧ s = sv l ∧ Hid ((v = 0 → l = Lib.decDigits u) ∧ (0 < v → Lib.decDigits v ++ l = Lib.decDigits u)) ∧ l.length ≤ 19 ∧ Hid (Below w.heap.size w wr)) (fun nv _ _ => (intOf nv).natAbs)
  case atStart => exact ⟨u, [], Nat.le_refl _, rfl, rfl, ⟨fun h => by omega, fun _ => by simp⟩, by simp, Below.refl _ _⟩
  case round =>
   obtain ⟨v, l, hv, rfl, rfl, HE, hll, HB⟩ := hrel
   by_cases hv0 : v = 0
   ·subst hv0
    have hl := HE.out.1 rfl
    subst hl
    have d1 : ((-((0 : Nat) : Int)) != 0) = false := rfl
    have hcl : ¬ 9223372036854775807 < 1 + (Lib.decDigits u).length := by omega
    go_wp2_with fail
    go_ret
    exact ⟨by rw [hit.out]; exact congrArg _ (sv_app [45] _), HB.out⟩
   ·have d1 : ((-(v : Int)) != 0) = true := by simpa using hv0
    obtain ⟨r, hr⟩ : ∃ r, r = v % 10 := ⟨_, rfl⟩
    obtain ⟨q, hq⟩ : ∃ q, q = v / 10 := ⟨_, rfl⟩
    have hmod : (-(v : Int)).tmod 10 = -(r : Int) := by rw [Int.neg_tmod, Int.tmod_eq_emod_of_nonneg (by omega)]; omega
    have hmod2 : (v : Int).tmod 10 = (r : Int) := by rw [Int.tmod_eq_emod_of_nonneg (by omega)]; omega
    have hdiv : (-(v : Int)).tdiv 10 = -(q : Int) := by rw [Int.neg_tdiv, Int.tdiv_eq_ediv_of_nonneg (by omega)]; omega
    have hdiv2 : (v : Int).tdiv 10 = (q : Int) := by rw [Int.tdiv_eq_ediv_of_nonneg (by omega)]; omega
    have hr10 : r < 10 := by omega
    have HV := Lib.hid (And.intro hr hq)
    have hcv := conv1 wr r hr10
    have hcl : ¬ 9223372036854775807 < 1 + l.length := by omega
    have HN : Hid ((q = 0 → UInt8.ofNat (48 + r) :: l = Lib.decDigits u) ∧ (0 < q → Lib.decDigits q ++ UInt8.ofNat (48 + r) :: l = Lib.decDigits u)) := by
     have h1 := HE.out.2 (by omega)
     constructor
     ·intro hq0
      have hv10 : v < 10 := by omega
      rw [dec_small hv10] at h1
      rw [← h1, hr, Nat.mod_eq_of_lt hv10]; rfl
     ·intro hq0
      have hv10 : ¬ v < 10 := by omega
      rw [dec_big hv10, ← hr, ← hq] at h1
      rw [← h1]; simp
    have hnl : (UInt8.ofNat (48 + r) :: l).length ≤ 19 := by
     rcases Nat.eq_zero_or_pos q with h9 | h9
     ·rw [HN.out.1 h9]; exact hul
     ·have := congrArg List.length (HN.out.2 h9)
      rw [List.length_append] at this
      omega
    clear hr hq
    have hqu : q ≤ u := by have := HV.out.2; omega
    have hw64 : wrap64 (-(q : Int)) = -(q : Int) := by unfold wrap64; omega
    by_cases hr0 : r = 0
    ·subst hr0
     have hcv0 : (convert 28 9 (.slice (some ⟨wr.heap.size, 0, none⟩) 1 1)).run Tryz.prog (wr.alloc (.cells #[.int .u8 48] 5)) = .ok (sv [UInt8.ofNat (48 + 0)]) (wr.alloc (.cells #[.int .u8 48] 5)) := hcv
     go_wp2_with fail
     refine (l01Figure_any 0 wr hr10).mono ?_
     rintro e w' ⟨rfl, rfl⟩
     go_wp2_with fail
     go_roundw
     case rel => exact ⟨q, UInt8.ofNat (48 + 0) :: l, by have := HV.out.2; omega, by first | rfl | (rw [hw64]; done) | simp, by first | exact sv_app [_] l | (rw [fig_eq]; exact sv_app [_] l), HN.out, hnl, HB.out.alloc HB.out.size _⟩
     case measure => have := HV.out.2; simp [intOf]; omega
    ·have hrn : -(r : Int) < 0 := by omega
     go_wp2_with fail
     refine (l01Figure_any r wr hr10).mono ?_
     rintro e w' ⟨rfl, rfl⟩
     go_wp2_with fail
     go_roundw
     case rel => exact ⟨q, UInt8.ofNat (48 + r) :: l, by have := HV.out.2; omega, by first | rfl | (rw [hw64]; done) | simp, by first | exact sv_app [_] l | (rw [fig_eq]; exact sv_app [_] l), HN.out, hnl, HB.out.alloc HB.out.size _⟩
     case measure => have := HV.out.2; simp [intOf]; omega
 ·have hit : Hid (Lib.itoa n = Lib.decDigits u) := by show _ = _; unfold Lib.itoa; rw [if_neg hneg]; congr 1; omega
  obtain rfl : n = (u : Int) := by omega
  clear hu
  go_enter Tryz.func25, Tryz.ntmps25
  go_wp2_with fail
  go_loopw [0, 4] (fun nv s wr => ∃ (v : Nat) (l : List UInt8), v ≤ u ∧ nv = .int .i64 v ∧ s = sv l ∧ Hid ((v = 0 → l = Lib.decDigits u) ∧ (0 < v → Lib.decDigits v ++ l = Lib.decDigits u)) ∧ l.length ≤ 19 ∧ Hid (Below w.heap.size w wr)) (fun nv _ _ => (intOf nv).toNat)
  case atStart => exact ⟨u, [], Nat.le_refl _, rfl, rfl, ⟨fun h => by omega, fun _ => by simp⟩, by simp, Below.refl _ _⟩
  case round =>
   obtain ⟨v, l, hv, rfl, rfl, HE, hll, HB⟩ := hrel
   by_cases hv0 : v = 0
   ·subst hv0
    have hl := HE.out.1 rfl
    subst hl
    have d1 : (((0 : Nat) : Int) != 0) = false := rfl
    go_wp2_with fail
    go_ret
    exact ⟨by rw [hit.out]; rfl, HB.out⟩
   ·have d1 : ((v : Int) != 0) = true := by simpa using hv0
    obtain ⟨r, hr⟩ : ∃ r, r = v % 10 := ⟨_, rfl⟩
    obtain ⟨q, hq⟩ : ∃ q, q = v / 10 := ⟨_, rfl⟩
    have hmod : (v : Int).tmod 10 = (r : Int) := by rw [Int.tmod_eq_emod_of_nonneg (by omega)]; omega
    have hmod2 : (v : Int) % 10 = (r : Int) := by omega
    have hdiv : (v : Int).tdiv 10 = (q : Int) := by rw [Int.tdiv_eq_ediv_of_nonneg (by omega)]; omega
    have hdiv2 : (v : Int) / 10 = (q : Int) := by omega
    have hnn : ¬ (r : Int) < 0 := by omega
    have hr10 : r < 10 := by omega
    have HV := Lib.hid (And.intro hr hq)
    have hcv := conv1 wr r hr10
    have hcl : ¬ 9223372036854775807 < 1 + l.length := by omega
    have HN : Hid ((q = 0 → UInt8.ofNat (48 + r) :: l = Lib.decDigits u) ∧ (0 < q → Lib.decDigits q ++ UInt8.ofNat (48 + r) :: l = Lib.decDigits u)) := by
     have h1 := HE.out.2 (by omega)
     constructor
     ·intro hq0
      have hv10 : v < 10 := by omega
      rw [dec_small hv10] at h1
      rw [← h1, hr, Nat.mod_eq_of_lt hv10]; rfl
     ·intro hq0
      have hv10 : ¬ v < 10 := by omega
      rw [dec_big hv10, ← hr, ← hq] at h1
      rw [← h1]; simp
    have hnl : (UInt8.ofNat (48 + r) :: l).length ≤ 19 := by
     rcases Nat.eq_zero_or_pos q with h9 | h9
     ·rw [HN.out.1 h9]; exact hul
     ·have := congrArg List.length (HN.out.2 h9)
      rw [List.length_append] at this
      omega
    clear hr hq
    go_wp2_with fail
    refine (l01Figure_any r wr hr10).mono ?_
    rintro e w' ⟨rfl, rfl⟩
    go_wp2_with fail
    go_roundw
    case rel => exact ⟨q, UInt8.ofNat (48 + r) :: l, by have := HV.out.2; omega, by first | rfl | simp, by first | exact sv_app [_] l | (rw [fig_eq]; exact sv_app [_] l), HN.out, hnl, HB.out.alloc HB.out.size _⟩
    case measure => have := HV.out.2; simp [intOf]; omega
theorem Tab.below {w w' : World} (h : Tab w) (hb : Below w.heap.size w w') : Tab w' := by
 unfold Tab Lib.TabIs World.var? at *
 cases hg : Tryz.prog.globalNamed "internal/strconv.uint64pow10" with
 |none => rw [hg] at h; cases h
 |some g =>
  rw [hg] at h
  simp only [Option.bind_some] at h ⊢
  cases hh : w.heap[g]? with
  |none => rw [hh] at h; cases h
  |some o =>
   rw [hb.block g (Array.getElem?_eq_some_iff.1 hh).1]
   exact h
theorem FormatInt_any (n : Int) (w : World) (hn : n ≤ 9223372036854775807) (hn' : -9223372036854775808 ≤ n) (ht : Tab w) :
  Calls Tryz.prog 16 #[.int .i64 n] w fun e w' => e = .returned (sv (Lib.itoa n)) ∧ Below w.heap.size w w' := by
 have H := Lib.hid (Tryz.strconv_Itoa n hn' hn w ht)
 go_enter Tryz.func16, Tryz.ntmps16
 go_wp2_with fail
 refine H.out.mono ?_
 rintro e w' ⟨rfl, k, os, rfl⟩
 go_wp2_with fail
 go_ret
 exact ⟨rfl, ⟨rfl, rfl, rfl, by simp [Go.Sort.grow], fun i hi => by simp [Go.Sort.grow, Array.getElem?_append, hi]⟩⟩
theorem FormatInt_t (n : Int) (w : World) (h : -1000000000000000000 ≤ n ∧ n ≤ 1000000000000000000) (ht : Tab w) :
  Calls Tryz.prog 16 #[.int .i64 n] w fun e w' => e = .returned (sv (Lib.itoa n)) ∧ Below w.heap.size w w' := FormatInt_any n w (by omega) (by omega) ht
theorem FormatIntS_t (n : Int) (w : World) (h : -1000000000000000000 ≤ n ∧ n ≤ 1000000000000000000) (_ht : Tab w) :
  Calls Tryz.prog 25 #[.int .i64 n] w fun e w' => e = .returned (sv (Lib.itoa n)) ∧ Below w.heap.size w w' := FormatIntS_any n w (by omega) (by omega)
end
end Go.Proofs.YtpmmjhpmheooeaaGreatDoor
