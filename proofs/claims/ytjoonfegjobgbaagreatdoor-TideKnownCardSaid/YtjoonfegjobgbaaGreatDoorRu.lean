/- Texts of this claim, joined: Sh3 H3 H5 P16 H4 F0. -/
import Derived.Shelf.Strings.OnBuilder
import Derived.Shelf.Strings.Repeat
import Derived.Shelf.Strconv.Itoa3
import Derived.Shelf.Slices.Cells
import Derived.Test.YtjoonfegjobgbaaGreatDoorProg
import Derived.Lib.AppendIntMem
import Derived.Deep.AppendLies
import Derived.Lib.ItoaNum
import Derived.Lib.ParseIntB
import Derived.Lib.SlTrimSet
import Derived.Test.YtjoonfegjobgbaaGreatDoorRt
set_option linter.unusedVariables false
set_option linter.unusedSimpArgs false
set_option maxRecDepth 100000
namespace Go.Proofs.YtjoonfegjobgbaaGreatDoor
open Go
open Go.Shelf
def Sh.lays156_ren : Go.Shelf.Ren := ⟨fun | 156 => 117 | 165 => 162 | 166 => 163 | 169 => 164 | 240 => 199 | 241 => 200 | 276 => 227 | 277 => 228 | n => n, fun | 31 => 72 | 9 => 9 | 3 => 3 | 4 => 4 | 0 => 0 | 20 => 20 | 72 => 164 | 76 => 168 | 70 => 161 | 37 => 162 | 75 => 167 | 127 => 191 | 164 => 209 | 5 => 5 | 80 => 170 | n => n, fun | n => n⟩
theorem Sh.lays156 : Go.Proofs.Lays.n156 Tryz.prog Sh.lays156_ren := {
  mixed := by kernel_rfl
  f156 := Tryz.func117.trans (congrArg some (by kernel_rfl))
  f165 := Tryz.func162.trans (congrArg some (by kernel_rfl))
  f166 := Tryz.func163.trans (congrArg some (by kernel_rfl))
  f169 := Tryz.func164.trans (congrArg some (by kernel_rfl))
  f240 := Tryz.func199.trans (congrArg some (by kernel_rfl))
  f241 := Tryz.func200.trans (congrArg some (by kernel_rfl))
  f276 := Tryz.func227.trans (congrArg some (by kernel_rfl))
  f277 := Tryz.func228.trans (congrArg some (by kernel_rfl))
  t0 := Tryz.underlying0
  a0 := Tryz.isAgg0
  z0 := Tryz.sizeOf0
  v0 := Tryz.zeroValue0
  t3 := Tryz.underlying3
  a3 := Tryz.isAgg3
  z3 := Tryz.sizeOf3
  v3 := Tryz.zeroValue3
  t4 := Tryz.underlying4
  a4 := Tryz.isAgg4
  z4 := Tryz.sizeOf4
  v4 := Tryz.zeroValue4
  t9 := Tryz.underlying9
  a9 := Tryz.isAgg9
  z9 := Tryz.sizeOf9
  v9 := Tryz.zeroValue9
  t20 := Tryz.underlying20
  a20 := Tryz.isAgg20
  z20 := Tryz.sizeOf20
  v20 := Tryz.zeroValue20
  t31 := Tryz.underlying72
  a31 := Tryz.isAgg72
  z31 := Tryz.sizeOf72
  v31 := Tryz.zeroValue72
  t37 := Tryz.underlying162
  a37 := Tryz.isAgg162
  z37 := Tryz.sizeOf162
  v37 := Tryz.zeroValue162
  t70 := Tryz.underlying161
  a70 := Tryz.isAgg161
  z70 := Tryz.sizeOf161
  v70 := Tryz.zeroValue161
  t72 := Tryz.underlying164
  a72 := Tryz.isAgg164
  z72 := Tryz.sizeOf164
  v72 := Tryz.zeroValue164
  t75 := Tryz.underlying167
  a75 := Tryz.isAgg167
  z75 := Tryz.sizeOf167
  v75 := Tryz.zeroValue167
  t76 := Tryz.underlying168
  a76 := Tryz.isAgg168
  z76 := Tryz.sizeOf168
  v76 := Tryz.zeroValue168
  t127 := Tryz.underlying191
  a127 := Tryz.isAgg191
  z127 := Tryz.sizeOf191
  v127 := Tryz.zeroValue191
  t164 := Tryz.underlying209
  a164 := Tryz.isAgg209
  z164 := Tryz.sizeOf209
  v164 := Tryz.zeroValue209 }
theorem Sh.Builder_Extra_156 : Builder.Extra Tryz.prog Sh.lays156_ren := {
  sizeBuilder := by kernel_rfl
  liesBuilder := by kernel_rfl
  t5 := Tryz.underlying5
  a5 := Tryz.isAgg5
  z5 := Tryz.sizeOf5
  v5 := Tryz.zeroValue5
  infoByte := by kernel_rfl
  cellsByte := by kernel_rfl
  sizeByte := by kernel_rfl
  neB5 := by decide }
theorem Sh.strings_Join_none (a : Option Addr) (c : Nat) (sep : ByteArray) (w : World) :
    Calls Tryz.prog 117 #[.slice a 0 c, .string sep] w fun e w' => e = .returned (.string ⟨#[]⟩) ∧ w' = w := Any.strings_Join_none Sh.lays156 Sh.Builder_Extra_156 a c sep w
open Go.RowKit in
theorem Sh.strings_Join (bk o c : Nat) (xs : List ByteArray) (sep : ByteArray) (w : World) (hcells : ∀ (j : Nat) x, xs[j]? = some x → w.cell? ⟨bk, o + j, none⟩ = some (.string x)) (hbk : bk < w.heap.size) (hN : xs.length ≤ 140737488355328) (hcap : xs.length ≤ c) (hlen : (Lib.join (xs.map (·.data.toList)) sep.data.toList).length ≤ 140737488355328) :
    Calls Tryz.prog 117 #[.slice (some ⟨bk, o, none⟩) xs.length c, .string sep] w fun e w' => e = .returned (.string ⟨(Lib.join (xs.map (·.data.toList)) sep.data.toList).toArray⟩) ∧ Below w.heap.size w w' := Any.strings_Join Sh.lays156 Sh.Builder_Extra_156 bk o c xs sep w hcells hbk hN hcap hlen
def Sh.lays283_ren : Go.Shelf.Ren := ⟨fun | 283 => 229 | n => n, fun | 3 => 3 | 9 => 9 | 4 => 4 | n => n, fun | n => n⟩
theorem Sh.lays283 : Go.Proofs.Lays.n283 Tryz.prog Sh.lays283_ren := {
  mixed := by kernel_rfl
  f283 := Tryz.func229.trans (congrArg some (by kernel_rfl))
  t3 := Tryz.underlying3
  a3 := Tryz.isAgg3
  z3 := Tryz.sizeOf3
  v3 := Tryz.zeroValue3
  t4 := Tryz.underlying4
  a4 := Tryz.isAgg4
  z4 := Tryz.sizeOf4
  v4 := Tryz.zeroValue4
  t9 := Tryz.underlying9
  a9 := Tryz.isAgg9
  z9 := Tryz.sizeOf9
  v9 := Tryz.zeroValue9 }
open Go.Lib in
theorem Sh.internal_strconv_small (i : Nat) (h : i < 100) (w : World) :
    Calls Tryz.prog 229 #[.int .i64 i] w fun e w' => e = .returned (.string ⟨(Lib.decDigits i).toArray⟩) ∧ w' = w := Any.internal_strconv_small Sh.lays283 i h w
def Sh.laysM284_ren : Go.Shelf.Ren := ⟨fun | 284 => 230 | 129 => 255 | 317 => 254 | 318 => 256 | n => n, fun | 53 => 146 | 3 => 3 | 212 => 236 | 0 => 0 | 4 => 4 | 46 => 150 | 5 => 5 | 9 => 9 | n => n, fun | 17 => 1 | n => n⟩
theorem Sh.laysM284 : Go.Proofs.LaysM.n284 Tryz.prog Sh.laysM284_ren := {
  mixed := by kernel_rfl
  f129 := Tryz.func255.trans (congrArg some (by kernel_rfl))
  f284 := Tryz.func230.trans (congrArg some (by kernel_rfl))
  f317 := Tryz.func254.trans (congrArg some (by kernel_rfl))
  f318 := Tryz.func256.trans (congrArg some (by kernel_rfl))
  t0 := Tryz.underlying0
  a0 := Tryz.isAgg0
  z0 := Tryz.sizeOf0
  v0 := Tryz.zeroValue0
  t3 := Tryz.underlying3
  a3 := Tryz.isAgg3
  z3 := Tryz.sizeOf3
  v3 := Tryz.zeroValue3
  t4 := Tryz.underlying4
  a4 := Tryz.isAgg4
  z4 := Tryz.sizeOf4
  v4 := Tryz.zeroValue4
  t5 := Tryz.underlying5
  a5 := Tryz.isAgg5
  z5 := Tryz.sizeOf5
  v5 := Tryz.zeroValue5
  t9 := Tryz.underlying9
  a9 := Tryz.isAgg9
  z9 := Tryz.sizeOf9
  v9 := Tryz.zeroValue9
  t46 := Tryz.underlying150
  a46 := Tryz.isAgg150
  z46 := Tryz.sizeOf150
  v46 := Tryz.zeroValue150
  t53 := Tryz.underlying146
  a53 := Tryz.isAgg146
  z53 := Tryz.sizeOf146
  v53 := Tryz.zeroValue146
  t212 := Tryz.underlying236
  a212 := Tryz.isAgg236
  z212 := Tryz.sizeOf236
  v212 := Tryz.zeroValue236
  g17 := by kernel_rfl
  i0 := by kernel_rfl
  i3 := by kernel_rfl
  i4 := by kernel_rfl
  i5 := by kernel_rfl
  i9 := by kernel_rfl
  i46 := by kernel_rfl
  i53 := by kernel_rfl
  i212 := by kernel_rfl
  m17 := by kernel_rfl }
open Go.Lib in
theorem Sh.internal_strconv_numDigits (u : Nat) (h1 : 1 ≤ u) (h2 : u < 18446744073709551616) (w : World) (htab : Lib.TabIs Tryz.prog w "internal/strconv.uint64pow10" .u64 Lib.pow10Tab) :
    Calls Tryz.prog 230 #[.int .u64 u] w fun e w' => e = .returned (.int .i64 (Lib.nDigits u)) ∧ w' = w := Any.internal_strconv_numDigits Sh.laysM284 u h1 h2 w htab
def Sh.lays285_ren : Go.Shelf.Ren := ⟨fun | 285 => 231 | n => n, fun | 37 => 162 | 53 => 146 | 3 => 3 | 4 => 4 | 51 => 46 | 9 => 9 | 5 => 5 | 0 => 0 | n => n, fun | n => n⟩
theorem Sh.lays285 : Go.Proofs.Lays.n285 Tryz.prog Sh.lays285_ren := {
  mixed := by kernel_rfl
  f285 := Tryz.func231.trans (congrArg some (by kernel_rfl))
  t0 := Tryz.underlying0
  a0 := Tryz.isAgg0
  z0 := Tryz.sizeOf0
  v0 := Tryz.zeroValue0
  t3 := Tryz.underlying3
  a3 := Tryz.isAgg3
  z3 := Tryz.sizeOf3
  v3 := Tryz.zeroValue3
  t4 := Tryz.underlying4
  a4 := Tryz.isAgg4
  z4 := Tryz.sizeOf4
  v4 := Tryz.zeroValue4
  t5 := Tryz.underlying5
  a5 := Tryz.isAgg5
  z5 := Tryz.sizeOf5
  v5 := Tryz.zeroValue5
  t9 := Tryz.underlying9
  a9 := Tryz.isAgg9
  z9 := Tryz.sizeOf9
  v9 := Tryz.zeroValue9
  t37 := Tryz.underlying162
  a37 := Tryz.isAgg162
  z37 := Tryz.sizeOf162
  v37 := Tryz.zeroValue162
  t51 := Tryz.underlying46
  a51 := Tryz.isAgg46
  z51 := Tryz.sizeOf46
  v51 := Tryz.zeroValue46
  t53 := Tryz.underlying146
  a53 := Tryz.isAgg146
  z53 := Tryz.sizeOf146
  v53 := Tryz.zeroValue146 }
open Go.RowKit Go.Sort Go.Lib in
theorem Sh.internal_strconv_formatBase10 (blk off cap : Nat) (u : Nat) (d : Array UInt8) (w : World) (hH : Holds (fun (b : UInt8) => Value.int .u8 (b.toNat : Int)) w blk off d) (hu : u < 10 ^ d.size) (hu64 : u < 18446744073709551616) (hsz : d.size < 4611686018427387904) :
    Calls Tryz.prog 231 #[.slice (some ⟨blk, off, none⟩) d.size cap, .int .u64 u] w fun e w' =>
      e = .returned (.tuple #[]) ∧ ∃ (n v' : Nat) (dk : Array UInt8), w' = (putRow (fun (b : UInt8) => Value.int .u8 (b.toNat : Int)) w blk off dk).drewN n ∧ FmtInv d.size u 0 v' dk := Any.internal_strconv_formatBase10 Sh.lays285 blk off cap u d w hH hu hu64 hsz
def Sh.laysM171_ren : Go.Shelf.Ren := ⟨fun | 171 => 118 | 243 => 165 | 246 => 201 | 283 => 229 | 284 => 230 | 285 => 231 | 286 => 232 | 129 => 255 | 317 => 254 | 318 => 256 | 319 => 257 | 320 => 258 | 337 => 267 | 338 => 268 | n => n, fun | 3 => 3 | 9 => 9 | 2 => 2 | 4 => 4 | 171 => 212 | 0 => 0 | 53 => 146 | 37 => 162 | 5 => 5 | 173 => 215 | 212 => 236 | 51 => 46 | 20 => 20 | 213 => 237 | 46 => 150 | 232 => 255 | 233 => 256 | n => n, fun | 17 => 1 | 18 => 6 | 19 => 7 | n => n⟩
theorem Sh.laysM171 : Go.Proofs.LaysM.n171 Tryz.prog Sh.laysM171_ren := {
  mixed := by kernel_rfl
  f129 := Tryz.func255.trans (congrArg some (by kernel_rfl))
  f171 := Tryz.func118.trans (congrArg some (by kernel_rfl))
  f243 := Tryz.func165.trans (congrArg some (by kernel_rfl))
  f246 := Tryz.func201.trans (congrArg some (by kernel_rfl))
  f283 := Tryz.func229.trans (congrArg some (by kernel_rfl))
  f284 := Tryz.func230.trans (congrArg some (by kernel_rfl))
  f285 := Tryz.func231.trans (congrArg some (by kernel_rfl))
  f286 := Tryz.func232.trans (congrArg some (by kernel_rfl))
  f317 := Tryz.func254.trans (congrArg some (by kernel_rfl))
  f318 := Tryz.func256.trans (congrArg some (by kernel_rfl))
  f319 := Tryz.func257.trans (congrArg some (by kernel_rfl))
  f320 := Tryz.func258.trans (congrArg some (by kernel_rfl))
  f337 := Tryz.func267.trans (congrArg some (by kernel_rfl))
  f338 := Tryz.func268.trans (congrArg some (by kernel_rfl))
  t0 := Tryz.underlying0
  a0 := Tryz.isAgg0
  z0 := Tryz.sizeOf0
  v0 := Tryz.zeroValue0
  t2 := Tryz.underlying2
  a2 := Tryz.isAgg2
  z2 := Tryz.sizeOf2
  v2 := Tryz.zeroValue2
  t3 := Tryz.underlying3
  a3 := Tryz.isAgg3
  z3 := Tryz.sizeOf3
  v3 := Tryz.zeroValue3
  t4 := Tryz.underlying4
  a4 := Tryz.isAgg4
  z4 := Tryz.sizeOf4
  v4 := Tryz.zeroValue4
  t5 := Tryz.underlying5
  a5 := Tryz.isAgg5
  z5 := Tryz.sizeOf5
  v5 := Tryz.zeroValue5
  t9 := Tryz.underlying9
  a9 := Tryz.isAgg9
  z9 := Tryz.sizeOf9
  v9 := Tryz.zeroValue9
  t20 := Tryz.underlying20
  a20 := Tryz.isAgg20
  z20 := Tryz.sizeOf20
  v20 := Tryz.zeroValue20
  t37 := Tryz.underlying162
  a37 := Tryz.isAgg162
  z37 := Tryz.sizeOf162
  v37 := Tryz.zeroValue162
  t46 := Tryz.underlying150
  a46 := Tryz.isAgg150
  z46 := Tryz.sizeOf150
  v46 := Tryz.zeroValue150
  t51 := Tryz.underlying46
  a51 := Tryz.isAgg46
  z51 := Tryz.sizeOf46
  v51 := Tryz.zeroValue46
  t53 := Tryz.underlying146
  a53 := Tryz.isAgg146
  z53 := Tryz.sizeOf146
  v53 := Tryz.zeroValue146
  t171 := Tryz.underlying212
  a171 := Tryz.isAgg212
  z171 := Tryz.sizeOf212
  v171 := Tryz.zeroValue212
  t173 := Tryz.underlying215
  a173 := Tryz.isAgg215
  z173 := Tryz.sizeOf215
  v173 := Tryz.zeroValue215
  t212 := Tryz.underlying236
  a212 := Tryz.isAgg236
  z212 := Tryz.sizeOf236
  v212 := Tryz.zeroValue236
  t213 := Tryz.underlying237
  a213 := Tryz.isAgg237
  z213 := Tryz.sizeOf237
  t232 := Tryz.underlying255
  a232 := Tryz.isAgg255
  z232 := Tryz.sizeOf255
  v232 := Tryz.zeroValue255
  t233 := Tryz.underlying256
  a233 := Tryz.isAgg256
  z233 := Tryz.sizeOf256
  v233 := Tryz.zeroValue256
  g17 := by kernel_rfl
  g18 := by kernel_rfl
  g19 := by kernel_rfl
  i0 := by kernel_rfl
  i2 := by kernel_rfl
  i3 := by kernel_rfl
  i4 := by kernel_rfl
  i5 := by kernel_rfl
  i9 := by kernel_rfl
  i20 := by kernel_rfl
  i37 := by kernel_rfl
  i46 := by kernel_rfl
  i51 := by kernel_rfl
  i53 := by kernel_rfl
  i171 := by kernel_rfl
  i173 := by kernel_rfl
  i212 := by kernel_rfl
  i232 := by kernel_rfl
  i233 := by kernel_rfl
  m17 := by kernel_rfl
  m18 := by kernel_rfl
  m19 := by kernel_rfl }
open Go.RowKit Go.Sort Go.Lib in
theorem Sh.strconv_Itoa (n : Int) (h0 : -9223372036854775808 ≤ n) (h1 : n ≤ 9223372036854775807) (w : World) (htab : Lib.TabIs Tryz.prog w "internal/strconv.uint64pow10" .u64 Lib.pow10Tab) :
    Calls Tryz.prog 118 #[.int .i64 n] w fun e w' => e = .returned (.string ⟨(Lib.itoa n).toArray⟩) ∧ ∃ k os, w' = grow (w.drewN k) os := Any.strconv_Itoa Sh.laysM171 n h0 h1 w htab
def Sh.lays105_ren : Go.Shelf.Ren := ⟨fun | 105 => 187 | 212 => 215 | 99 => 216 | 165 => 162 | 166 => 163 | 170 => 217 | 169 => 164 | 263 => 244 | 264 => 245 | 206 => 204 | 240 => 199 | 241 => 200 | 276 => 227 | 277 => 228 | n => n, fun | 9 => 9 | 3 => 3 | 4 => 4 | 20 => 20 | 0 => 0 | 46 => 150 | 109 => 202 | 5 => 5 | 72 => 164 | 76 => 168 | 51 => 46 | 146 => 227 | 53 => 146 | 148 => 229 | 70 => 161 | 37 => 162 | 75 => 167 | 127 => 191 | 164 => 209 | 80 => 170 | n => n, fun | n => n⟩
theorem Sh.lays105 : Go.Proofs.Lays.n105 Tryz.prog Sh.lays105_ren := {
  mixed := by kernel_rfl
  f99 := Tryz.func216.trans (congrArg some (by kernel_rfl))
  f105 := Tryz.func187.trans (congrArg some (by kernel_rfl))
  f165 := Tryz.func162.trans (congrArg some (by kernel_rfl))
  f166 := Tryz.func163.trans (congrArg some (by kernel_rfl))
  f169 := Tryz.func164.trans (congrArg some (by kernel_rfl))
  f170 := Tryz.func217.trans (congrArg some (by kernel_rfl))
  f206 := Tryz.func204.trans (congrArg some (by kernel_rfl))
  f212 := Tryz.func215.trans (congrArg some (by kernel_rfl))
  f240 := Tryz.func199.trans (congrArg some (by kernel_rfl))
  f241 := Tryz.func200.trans (congrArg some (by kernel_rfl))
  f263 := Tryz.func244.trans (congrArg some (by kernel_rfl))
  f264 := Tryz.func245.trans (congrArg some (by kernel_rfl))
  f276 := Tryz.func227.trans (congrArg some (by kernel_rfl))
  f277 := Tryz.func228.trans (congrArg some (by kernel_rfl))
  t0 := Tryz.underlying0
  a0 := Tryz.isAgg0
  z0 := Tryz.sizeOf0
  v0 := Tryz.zeroValue0
  t3 := Tryz.underlying3
  a3 := Tryz.isAgg3
  z3 := Tryz.sizeOf3
  v3 := Tryz.zeroValue3
  t4 := Tryz.underlying4
  a4 := Tryz.isAgg4
  z4 := Tryz.sizeOf4
  v4 := Tryz.zeroValue4
  t5 := Tryz.underlying5
  a5 := Tryz.isAgg5
  z5 := Tryz.sizeOf5
  v5 := Tryz.zeroValue5
  t9 := Tryz.underlying9
  a9 := Tryz.isAgg9
  z9 := Tryz.sizeOf9
  v9 := Tryz.zeroValue9
  t20 := Tryz.underlying20
  a20 := Tryz.isAgg20
  z20 := Tryz.sizeOf20
  v20 := Tryz.zeroValue20
  t37 := Tryz.underlying162
  a37 := Tryz.isAgg162
  z37 := Tryz.sizeOf162
  v37 := Tryz.zeroValue162
  t46 := Tryz.underlying150
  a46 := Tryz.isAgg150
  z46 := Tryz.sizeOf150
  v46 := Tryz.zeroValue150
  t51 := Tryz.underlying46
  a51 := Tryz.isAgg46
  z51 := Tryz.sizeOf46
  v51 := Tryz.zeroValue46
  t53 := Tryz.underlying146
  a53 := Tryz.isAgg146
  z53 := Tryz.sizeOf146
  v53 := Tryz.zeroValue146
  t70 := Tryz.underlying161
  a70 := Tryz.isAgg161
  z70 := Tryz.sizeOf161
  v70 := Tryz.zeroValue161
  t72 := Tryz.underlying164
  a72 := Tryz.isAgg164
  z72 := Tryz.sizeOf164
  v72 := Tryz.zeroValue164
  t75 := Tryz.underlying167
  a75 := Tryz.isAgg167
  z75 := Tryz.sizeOf167
  v75 := Tryz.zeroValue167
  t76 := Tryz.underlying168
  a76 := Tryz.isAgg168
  z76 := Tryz.sizeOf168
  v76 := Tryz.zeroValue168
  t109 := Tryz.underlying202
  a109 := Tryz.isAgg202
  z109 := Tryz.sizeOf202
  v109 := Tryz.zeroValue202
  t127 := Tryz.underlying191
  a127 := Tryz.isAgg191
  z127 := Tryz.sizeOf191
  v127 := Tryz.zeroValue191
  t146 := Tryz.underlying227
  a146 := Tryz.isAgg227
  z146 := Tryz.sizeOf227
  v146 := Tryz.zeroValue227
  t148 := Tryz.underlying229
  a148 := Tryz.isAgg229
  z148 := Tryz.sizeOf229
  v148 := Tryz.zeroValue229
  t164 := Tryz.underlying209
  a164 := Tryz.isAgg209
  z164 := Tryz.sizeOf209
  v164 := Tryz.zeroValue209 }
theorem Sh.Builder_Extra_105 : Builder.Extra Tryz.prog Sh.lays105_ren := {
  sizeBuilder := by kernel_rfl
  liesBuilder := by kernel_rfl
  t5 := Tryz.underlying5
  a5 := Tryz.isAgg5
  z5 := Tryz.sizeOf5
  v5 := Tryz.zeroValue5
  infoByte := by kernel_rfl
  cellsByte := by kernel_rfl
  sizeByte := by kernel_rfl
  neB5 := by decide }
open Go.RowKit Go.Lib in
theorem Sh.strings_Repeat (s : ByteArray) (c : Nat) (w : World) (hc : c ≤ 9223372036854775807) (hlen : s.size * c ≤ 140737488355328) :
    Calls Tryz.prog 187 #[.string s, .int .i64 c] w fun e w' => e = .returned (.string ⟨(Lib.repeatL s.data.toList c).toArray⟩) ∧ Below w.heap.size w w' := Any.strings_Repeat Sh.lays105 Sh.Builder_Extra_105 s c w hc hlen
def Sh.laysNm217_ren : Go.Shelf.Ren := ⟨fun | 17 => 188 | n => n, fun | 24 => 72 | 9 => 9 | 3 => 3 | 4 => 4 | 0 => 0 | n => n, fun | n => n⟩
theorem Sh.laysNm217 : Go.Proofs.Lays2.n17 Tryz.prog Sh.laysNm217_ren := {
  mixed := by kernel_rfl
  f17 := Tryz.func188.trans (congrArg some (by kernel_rfl))
  t0 := Tryz.underlying0
  a0 := Tryz.isAgg0
  z0 := Tryz.sizeOf0
  v0 := Tryz.zeroValue0
  t3 := Tryz.underlying3
  a3 := Tryz.isAgg3
  z3 := Tryz.sizeOf3
  v3 := Tryz.zeroValue3
  t4 := Tryz.underlying4
  a4 := Tryz.isAgg4
  z4 := Tryz.sizeOf4
  v4 := Tryz.zeroValue4
  t9 := Tryz.underlying9
  a9 := Tryz.isAgg9
  z9 := Tryz.sizeOf9
  v9 := Tryz.zeroValue9
  t24 := Tryz.underlying72
  a24 := Tryz.isAgg72
  z24 := Tryz.sizeOf72
  v24 := Tryz.zeroValue72 }
open Go.RowKit Go.Lib Go.Sort in
theorem Sh.slices_Reverse_string_cells (b off n c : Nat) (Sx : Nat → ByteArray) (w : World) (hbig : n ≤ 9223372036854775807) (hc : ∀ i, i < n → w.cell? ⟨b, off + i, none⟩ = some (.string (Sx i))) (hf : ∀ j, j < n → w.frozen? ⟨b, off + j, none⟩ = false) :
    Calls Tryz.prog 188 #[.slice (some ⟨b, off, none⟩) n c] w fun e w' => e = .returned (.tuple #[]) ∧ ∃ q, w' = (w.drewN q).setCells b off ((Lib.strsOf Sx n).reverse.map encStr) := Any.slices_Reverse_string_cells Sh.laysNm217 b off n c Sx w hbig hc hf
end Go.Proofs.YtjoonfegjobgbaaGreatDoor
namespace Go.Proofs.YtjoonfegjobgbaaGreatDoor
open Go Go.RowKit Go.Sort Go.Lib
set_option maxHeartbeats 6400000 in
theorem fmtI_any (u : Nat) (hu64 : u < 18446744073709551616) (w : World) (htab : Lib.TabIs Tryz.prog w "internal/strconv.uint64pow10" .u64 Lib.pow10Tab) :
    Calls Tryz.prog 214 #[.int .u64 (u : Int), .int .i64 10] w fun e w' => e = .returned (.string ⟨(Lib.decDigits u).toArray⟩) ∧ Ext w w' := by
  by_cases hs : u < 100
  · have hb : decide ((u : Int) < 100) = true := decide_eq_true (by omega)
    go_enter Tryz.func214, Tryz.ntmps214
    go_wp2_with (go_at_call 229; refine (Sh.internal_strconv_small u hs _).mono ?_; rintro e w' ⟨rfl, rfl⟩)
    go_ret
    exact ⟨rfl, Ext.refl _⟩
  · have hb : decide ((u : Int) < 100) = false := decide_eq_false (by omega)
    have hu1 : 1 ≤ u := by omega
    have hnd20 : Lib.nDigits u ≤ 20 := by have := Lib.numDigits_eq u hu1 hu64; split at this <;> omega
    have hal : (Tryz.prog).arrayLen 212 = 24 := by simp [Program.arrayLen, Tryz.underlying212]
    have hsl : ∀ W, (Instr.sliceAt 212 (.pointer (some ⟨w.heap.size, 0, none⟩)) none (some (.int .i64 (Lib.nDigits u : Int))) none).run Tryz.prog W = .ok (.slice (some ⟨w.heap.size, 0, none⟩) (Lib.nDigits u) 24) W := fun W => by
      rw [run_sliceAt_array_h W 212 ⟨w.heap.size, 0, none⟩ (by simp [Program.arrayLen, Program.elem, Tryz.underlying212]) .i64 (Lib.nDigits u : Int) (by omega) (by rw [hal]; omega)]
      go_simp
    have hH0 := Lib.holds_zero0 w 212 (Lib.nDigits u) (by omega)
    have hfmt := Sh.internal_strconv_formatBase10 w.heap.size 0 24 u (Array.replicate (Lib.nDigits u) 0) (w.alloc (.cells Lib.zeros24 212)) hH0 (by rw [Array.size_replicate]; exact Lib.lt_pow_nDigits u) hu64 (by rw [Array.size_replicate]; omega)
    rw [Array.size_replicate] at hfmt
    have HH0 := Lib.hid hH0
    clear hH0 hal
    go_enter Tryz.func214, Tryz.ntmps214
    go_wp2_with (first
      | (go_at_call 230; refine (Sh.internal_strconv_numDigits u hu1 hu64 _ (Lib.tabIs_alloc htab _)).mono ?_; rintro e w' ⟨rfl, rfl⟩))
    go_at_call 231
    refine hfmt.mono ?_
    rintro e w' ⟨rfl, k, v', dk, rfl, hF⟩
    have hcv : (convert 162 9 (.slice (some ⟨w.heap.size, 0, none⟩) (Lib.nDigits u) 24)).run Tryz.prog ((putRow (fun (b : UInt8) => Value.int .u8 (b.toNat : Int)) (w.alloc (.cells Lib.zeros24 212)) w.heap.size 0 dk).drewN k) = .ok (.string ⟨(Lib.decDigits u).toArray⟩) ((putRow (fun (b : UInt8) => Value.int .u8 (b.toNat : Int)) (w.alloc (.cells Lib.zeros24 212)) w.heap.size 0 dk).drewN k) := by
      have h := run_convert_bytes_back (P := Tryz.prog) ((putRow (fun (b : UInt8) => Value.int .u8 (b.toNat : Int)) (w.alloc (.cells Lib.zeros24 212)) w.heap.size 0 dk).drewN k) 162 9 5 ⟨w.heap.size, 0, none⟩ 24 (Lib.decDigits u) Tryz.underlying162 Tryz.underlying5 Tryz.underlying9 (fun j hj => by
        rw [Lib.row_is_numeral hF j hj, Lib.add_plain, World.cell?_drewN]
        exact cell?_putRow (fun (b : UInt8) => Value.int .u8 (b.toNat : Int)) _ w.heap.size 0 _ dk HH0.out (by rw [hF.size, Array.size_replicate]) j (by rw [hF.size]; rw [Lib.decDigits_length] at hj; exact hj))
      rw [Lib.decDigits_length] at h
      exact h
    go_wp2_with fail
    go_ret
    obtain ⟨os, eo⟩ := Lib.fin_at w (.cells Lib.zeros24 212) dk k 0
    refine ⟨rfl, ?_⟩
    rw [eo]
    exact Lib.below_grow w.heap.size w (Nat.le_refl _) k os
theorem fmtU_any (u : Nat) (hu64 : u < 18446744073709551616) (w : World) (htab : Lib.TabIs Tryz.prog w "internal/strconv.uint64pow10" .u64 Lib.pow10Tab) :
    Calls Tryz.prog 186 #[.int .u64 (u : Int), .int .i64 10] w fun e w' => e = .returned (.string ⟨(Lib.decDigits u).toArray⟩) ∧ Ext w w' := by
  go_enter Tryz.func186, Tryz.ntmps186
  go_wp2_with fail
  refine (fmtI_any u hu64 w htab).mono ?_; rintro e w' ⟨rfl, hx⟩
  have HX := Lib.hid hx
  clear hx
  go_wp2_with fail
  go_ret
  exact ⟨rfl, HX.out⟩
end Go.Proofs.YtjoonfegjobgbaaGreatDoor
namespace Go.Proofs.YtjoonfegjobgbaaGreatDoor
open Go Go.RowKit
theorem wpList_app1 {w : World} {ops : Array Oper} {rest : List Oper} {o : Oper} {a : Act} {Q : Exit → Act → World → Prop} (hgd : o.guard = none) (s x : Operand)
    (ho : o.op = .call { callee := .builtin .append, args := #[s, x], argTypes := #[22, 22] })
    (base : Nat) (A : Option Addr) (c : Nat) (xs : List Int) (n : Nat) (hn : xs.length = n) (hs : a.eval s = .slice A n c) (hO : Own w base A c xs)
    (b : Addr) (y : Int) (hx : a.eval x = .slice (some b) 1 1) (hR : w.cell? b = some (.int .u32 y))
    (hlen : n + 1 ≤ 35184372088832) (hbase : base ≤ w.heap.size)
    (h : ∀ g c' w', Own w' base (some ⟨g, 0, none⟩) c' (xs ++ [y]) → w.grownBy w' (A.map (·.block)) → (A.map (·.block) = some g ∨ g = w.heap.size) → wpList Tryz.prog ops Q rest (a.put o.dst (.slice (some ⟨g, 0, none⟩) (n + 1) c')) w') : wpList Tryz.prog ops Q (o :: rest) a w := by
  obtain ⟨i0, hi, hz0, hz1, hz2⟩ := info_parts info_u32
  subst hn
  have hrow : (Value.slice A xs.length c).ownBlock = A.map (·.block) := by cases A <;> rfl
  refine wpList_append_lies w hgd s x 22 ho base 46 i0 (.int .u32 0) 1 4 Tryz.underlying22 hi hz0 hz1 hz2 rfl (by decide) _ _ _ hs hO b 1 1 (nums [y]) hx rfl
    (fun j u hu => by
      match j, hu with
      | 0, hu => cases hu; rw [show b.add 0 = b from rfl]; exact hR
      | j + 1, hu => simp [nums] at hu) (nums_one [y]) (by decide) (by unfold maxLen; omega) (by omega) hbase _ rfl ?_
  intro g cap w' hr hg hat _
  rw [hrow] at hg hat
  rw [← nums_append] at hr
  have hr' : w'.ownsRow base 46 1 (.slice (some ⟨g, 0, none⟩) (xs ++ [y]).length cap) (xs ++ [y]).length (nums (xs ++ [y])) := by rw [List.length_append]; exact hr
  exact h g cap w' hr' hg hat
theorem V_app (xs : List Int) (y : Int) : val (xs ++ [y]) = val xs + y * pw xs.length := by
  unfold val
  rw [List.length_append, List.length_singleton, V_succ, V_congr xs.length (fun j hj => nth_append_left xs [y] j hj)]
  congr 2
  have := nth_append_right xs [y] 0
  rw [Nat.add_zero] at this
  rw [this]
  rfl
theorem grow_round (us xs : List Int) (k : Nat) (cr D x : Int) (hk : k < us.length) (hn : nth us k = nth xs k) (hv : V us k + cr * pw k = V xs k * D + x) :
    V (us.set k ((cr + nth xs k * D) % 4294967296)) (k + 1) + (cr + nth xs k * D) / 4294967296 * pw (k + 1) = V xs (k + 1) * D + x := by
  rw [V_set _ _ _ hk _ (Nat.lt_succ_self k), V_succ, V_succ, pw_succ, hn]
  have e : (cr + nth xs k * D) % 4294967296 = cr + nth xs k * D - (cr + nth xs k * D) / 4294967296 * 4294967296 := by omega
  rw [e]
  generalize (cr + nth xs k * D) / 4294967296 = q
  generalize nth xs k = z at *
  simp only [Int.add_mul, Int.sub_mul, Int.mul_assoc] at hv ⊢
  rw [Int.mul_comm (pw k) D]
  omega
theorem mul_bd {z D : Int} (hz : 0 ≤ z ∧ z < 4294967296) (hD : 0 ≤ D ∧ D < 4294967296) : 0 ≤ z * D ∧ z * D ≤ 18446744065119617025 := by
  refine ⟨Int.mul_nonneg hz.1 hD.1, ?_⟩
  have h : z * D ≤ 4294967295 * 4294967295 := Int.mul_le_mul (by omega) (by omega) hD.1 (by omega)
  omega
theorem grow_end {us : List Int} {m n : Nat} (hl : us.length = (wd m).length) (hw : Wf us) (hmn : m ≤ n) (hv : val us = (n : Int)) : wd n = us := by
  have e : (val us).toNat = n := by omega
  have := wd_val hw (fun hne hz => ?_)
  · rw [e] at this
    exact this
  · have hp : 0 < us.length := List.length_pos_iff.2 hne
    have hm0 : m ≠ 0 := fun e0 => by
      rw [e0, wd_zero] at hl
      rw [hl] at hp
      exact absurd hp (by decide)
    have h1 := pw_le_wd m hm0
    have h2 := V_succ us (us.length - 1)
    rw [show us.length - 1 + 1 = us.length by omega, hz, Int.zero_mul, Int.add_zero] at h2
    have h3 := V_lt hw (us.length - 1)
    have h4 : val us = V us us.length := rfl
    rw [hl] at h2 h3 h4
    omega
theorem grow_more {us : List Int} {cr : Int} {n : Nat} (hw : Wf us) (hr0 : 0 ≤ cr) (hr1 : cr < 4294967296) (h0 : cr ≠ 0) (hv : val us + cr * pw us.length = (n : Int)) : wd n = us ++ [cr] := by
  have hv' : val (us ++ [cr]) = n := by rw [V_app, hv]
  have := wd_val (xs := us ++ [cr]) (wf_append hw (fun x hx => by rw [List.mem_singleton] at hx; rw [hx]; exact ⟨hr0, hr1⟩)) (fun _ => by
    rw [List.length_append, List.length_singleton, Nat.add_sub_cancel]
    have := nth_append_right us [cr] 0
    rw [Nat.add_zero] at this
    rw [this]
    exact h0)
  rw [hv'] at this
  simpa using this
set_option maxHeartbeats 2000000 in
theorem grow_any (A : Option Addr) (m : Nat) (D x : Nat) (c base : Nat) (w : World) (ho : Own w base A c (wd m)) (hbw : base ≤ w.heap.size) (hd1 : D < 4294967296) (hx1 : x < 4294967296) (hd0 : 1 ≤ D) (lm : (wd m).length ≤ 8192) :
    Calls Tryz.prog 175 #[.slice A (wd m).length c, .int .u32 D, .int .u32 x] w fun e w' => ∃ A' c', e = .returned (.slice A' (wd (m * D + x)).length c') ∧ Own w' base A' c' (wd (m * D + x)) ∧ (∀ a, A' = some a → A.map (·.block) = some a.block ∨ w.heap.size ≤ a.block) ∧ w.grownBy w' (A.map (·.block)) := by
  have HO := Lib.hid ho
  have HG := Lib.hid (World.grownBy.refl w (A.map (·.block)))
  have HF := Lib.hid ho.form
  have hc := ho.rd.capm
  have HW := Lib.hid (wf_wd m)
  clear ho
  go_enter Tryz.func175, Tryz.ntmps175
  go_wp2_with fail
  go_loopw [7, 14] (fun ca i wr => ∃ (k : Nat) (us : List Int) (cr : Int), k ≤ (wd m).length ∧ Hid (us.length = (wd m).length) ∧ Hid (Wf us) ∧ 0 ≤ cr ∧ cr < 4294967296 ∧ Hid (V us k + cr * pw k = V (wd m) k * D + x) ∧ Hid (∀ j, k ≤ j → nth us j = nth (wd m) j) ∧ ca = .int .u64 cr ∧ i = .int .i64 k ∧ Hid (Own wr base A c us) ∧ Hid (w.grownBy wr (A.map (·.block)))) (fun _ i _ => (((wd m).length : Int) - intOf i).toNat)
  case atStart => exact ⟨0, wd m, x, by omega, rfl, HW.out, by omega, by omega, by show (0 : Int) + (x : Int) * pw 0 = 0 * (D : Int) + (x : Int); rw [pw_zero]; omega, fun _ _ => rfl, rfl, rfl, HO, HG⟩
  case round =>
    clear HO HG
    obtain ⟨k, us, cr, hk, HUL, HW', hr0, hr1, HV, HR, rfl, rfl, HO, HX⟩ := hrel
    by_cases hkm : k < (wd m).length
    · obtain ⟨g, rfl⟩ : ∃ g, A = some ⟨g, 0, none⟩ := by
        rcases HF.out with h | ⟨g, h, _⟩
        · obtain ⟨a, ha⟩ := HO.out.rd.some_ (by have := HUL.out; omega)
          rw [h] at ha; cases ha
        · exact ⟨g, h⟩
      have hco := HO.out.cell k (by have := HUL.out; omega)
      have hfo := HO.out.free k
      have HV2 := Lib.hid (grow_round us (wd m) k cr D x (by have := HUL.out; omega) (HR.out k (Nat.le_refl _)) HV.out)
      rw [HR.out k (Nat.le_refl _)] at hco
      have bx := nth_wf (wf_wd m) k
      have pb := mul_bd (D := D) bx ⟨by omega, by omega⟩
      obtain ⟨z, hz⟩ : ∃ z, z = nth (wd m) k := ⟨_, rfl⟩
      rw [← hz] at hco bx pb HV2
      clear hz
      obtain ⟨pb0, pb1⟩ := pb
      go_wp2_with fail
      go_roundw
      case rel =>
        exact ⟨k + 1, _, _, by omega, by unfold Hid; rw [List.length_set]; exact HUL.out, wf_set HW'.out _ _ (by omega) (by omega), by omega, by omega, HV2.out, fun j hj => by rw [nth_set_ne _ _ _ _ (by omega)]; exact HR.out j (by omega), rfl, by go_num, (HO.out.set k _).1, grown_trans HX.out (HO.out.set k _).2⟩
      case measure => simp [intOf]; omega
    · obtain rfl : k = (wd m).length := by omega
      have hval : val us + cr * pw us.length = ((m * D + x : Nat) : Int) := by
        have := HV.out
        have e := val_wd m
        unfold val at e ⊢
        rw [HUL.out, this, e]
        omega
      have hmn : m ≤ m * D + x := Nat.le_trans (Nat.le_mul_of_pos_right m hd0) (Nat.le_add_right _ _)
      by_cases h0 : cr = 0
      · subst h0
        have HE := Lib.hid (grow_end HUL.out HW'.out hmn (show val us = ((m * D + x : Nat) : Int) by omega))
        go_wp2_with fail
        go_ret
        refine ⟨A, c, ?_, ?_, fun a ha => .inl (by rw [ha]; rfl), HX.out⟩
        · rw [HE.out, HUL.out]
          rfl
        · rw [HE.out]
          exact HO.out
      · have hb : decide (cr > 0) = true := decide_eq_true (by omega)
        have hp : 0 < cr := by omega
        have HE := Lib.hid (grow_more HW'.out hr0 hr1 h0 hval)
        have HL := Lib.hid HUL.out
        have HC := Lib.hid (show (wr.alloc (.cells #[.int .u32 cr] 46)).cell? ⟨wr.heap.size, 0, none⟩ = some (.int .u32 cr) by rw [World.cell?_alloc_new]; rfl)
        go_wp2_with (at_builtin; refine wpList_app1 rfl _ _ rfl base A c us _ HL.out rfl (HO.out.ext (Ext.alloc (Ext.refl _) _)) ⟨wr.heap.size, 0, none⟩ cr rfl HC.out (by omega) (by have := HX.out.size; simp only [World.size_alloc]; omega) ?_; intro g c' w4 h1 h2 h3)
        have H1 := Lib.hid h1
        have H2 := Lib.hid h2
        have H3 := Lib.hid h3
        clear h1 h2 h3
        go_wp2_with fail
        go_ret
        refine ⟨some ⟨g, 0, none⟩, c', ?_, ?_, fun a ha => ?_, ?_⟩
        · rw [HE.out, List.length_append, HUL.out]
          rfl
        · rw [HE.out]
          exact H1.out
        · cases ha
          rcases H3.out with h | h
          · exact .inl h
          · right
            have := HX.out.size
            rw [h]
            show w.heap.size ≤ (wr.alloc _).heap.size
            rw [World.size_alloc]
            omega
        · exact grown_trans (grown_alloc HX.out _) H2.out
end Go.Proofs.YtjoonfegjobgbaaGreatDoor
namespace Go.Proofs.YtjoonfegjobgbaaGreatDoor
open Go
def decV (l : List UInt8) : Nat := l.foldl (fun a c => a * 10 + (c.toNat - 48)) 0
def isD (c : UInt8) : Bool := decide (48 ≤ c.toNat ∧ c.toNat ≤ 57)
def canD (l : List UInt8) : Bool := l.all isD && (match l with
  | [] => false
  | [_] => true
  | c :: _ => decide (c.toNat ≠ 48))
theorem isD_rng {c : UInt8} (h : isD c = true) : 48 ≤ c.toNat ∧ c.toNat ≤ 57 := of_decide_eq_true h
theorem foldl_dec (l : List UInt8) : ∀ a : Nat, l.foldl (fun a c => a * 10 + (c.toNat - 48)) a = a * 10 ^ l.length + decV l := by
  induction l with
  | nil => intro a; simp [decV]
  | cons c l ih =>
    intro a
    have e0 : decV (c :: l) = l.foldl (fun a c => a * 10 + (c.toNat - 48)) (0 * 10 + (c.toNat - 48)) := rfl
    rw [List.foldl_cons, ih, e0, ih, List.length_cons, Nat.pow_succ, Nat.add_mul, Nat.mul_assoc, Nat.mul_comm 10 (10 ^ l.length), Nat.zero_mul, Nat.zero_add, Nat.add_assoc]
theorem decV_append (l m : List UInt8) : decV (l ++ m) = decV l * 10 ^ m.length + decV m := by
  have : decV (l ++ m) = m.foldl (fun a c => a * 10 + (c.toNat - 48)) (decV l) := by unfold decV; rw [List.foldl_append]
  rw [this, foldl_dec]
theorem decV_cons (c : UInt8) (l : List UInt8) : decV (c :: l) = (c.toNat - 48) * 10 ^ l.length + decV l := by
  have := decV_append [c] l
  rw [show [c] ++ l = c :: l from rfl] at this
  rw [this]
  congr 2
  show 0 * 10 + (c.toNat - 48) = _
  omega
theorem decV_nil : decV [] = 0 := rfl
theorem decV_one (c : UInt8) : decV [c] = c.toNat - 48 := by
  show 0 * 10 + (c.toNat - 48) = _
  omega
theorem decV_lt : ∀ {l : List UInt8}, l.all isD = true → decV l < 10 ^ l.length
  | [], _ => by rw [decV_nil]; decide
  | c :: l, h => by
    rw [List.all_cons, Bool.and_eq_true] at h
    have ih := decV_lt h.2
    have := isD_rng h.1
    rw [decV_cons, List.length_cons, Nat.pow_succ]
    have hm : (c.toNat - 48) * 10 ^ l.length ≤ 9 * 10 ^ l.length := Nat.mul_le_mul_right _ (by omega)
    omega
theorem d48 : ∀ k : Fin 10, (UInt8.ofNat (48 + k.val)).toNat = 48 + k.val := by decide
theorem d48' {k : Nat} (h : k < 10) : (UInt8.ofNat (48 + k)).toNat = 48 + k := d48 ⟨k, h⟩
theorem isD_48 {k : Nat} (h : k < 10) : isD (UInt8.ofNat (48 + k)) = true := by
  unfold isD
  rw [d48' h]
  exact decide_eq_true (by omega)
theorem dec_small {n : Nat} (h : n < 10) : Lib.decDigits n = [UInt8.ofNat (48 + n)] := by rw [Lib.decDigits, dif_pos h]
theorem dec_big {n : Nat} (h : ¬ n < 10) : Lib.decDigits n = Lib.decDigits (n / 10) ++ [UInt8.ofNat (48 + n % 10)] := by rw [Lib.decDigits, dif_neg h]
theorem dec_all (n : Nat) : (Lib.decDigits n).all isD = true := by
  induction n using Nat.strongRecOn with
  | _ n ih =>
    by_cases h : n < 10
    · rw [dec_small h, List.all_cons, isD_48 h]
      rfl
    · rw [dec_big h, List.all_append, ih (n / 10) (by omega), List.all_cons, isD_48 (Nat.mod_lt _ (by decide))]
      rfl
theorem dec_val (n : Nat) : decV (Lib.decDigits n) = n := by
  induction n using Nat.strongRecOn with
  | _ n ih =>
    by_cases h : n < 10
    · rw [dec_small h, decV_one, d48' h]
      omega
    · rw [dec_big h, decV_append, ih (n / 10) (by omega), decV_one, d48' (Nat.mod_lt _ (by decide))]
      show n / 10 * 10 ^ 1 + _ = _
      omega
theorem dec_first {n : Nat} (h0 : n ≠ 0) : ∃ c l, Lib.decDigits n = c :: l ∧ c.toNat ≠ 48 := by
  induction n using Nat.strongRecOn with
  | _ n ih =>
    by_cases h : n < 10
    · refine ⟨_, [], dec_small h, ?_⟩
      rw [d48' h]
      omega
    · obtain ⟨c, l, e, hc⟩ := ih (n / 10) (by omega) (by omega)
      exact ⟨c, l ++ [UInt8.ofNat (48 + n % 10)], by rw [dec_big h, e]; rfl, hc⟩
theorem canD_of {c : UInt8} {l : List UInt8} (h : (c :: l).all isD = true) (k : l = [] ∨ c.toNat ≠ 48) : canD (c :: l) = true := by
  unfold canD
  rw [h, Bool.true_and]
  cases l with
  | nil => rfl
  | cons d l =>
    rcases k with k | k
    · cases k
    · exact decide_eq_true k
theorem canD_cons {l : List UInt8} (h : canD l = true) : ∃ c m, l = c :: m ∧ l.all isD = true ∧ (m = [] ∨ c.toNat ≠ 48) := by
  unfold canD at h
  rw [Bool.and_eq_true] at h
  obtain ⟨h1, h2⟩ := h
  match l, h2 with
  | [], h2 => cases h2
  | [c], _ => exact ⟨c, [], rfl, h1, .inl rfl⟩
  | c :: d :: l, h2 => exact ⟨c, d :: l, rfl, h1, .inr (of_decide_eq_true h2)⟩
theorem dec_can (n : Nat) : canD (Lib.decDigits n) = true := by
  by_cases h0 : n = 0
  · subst h0
    rw [dec_small (by decide)]
    decide
  · obtain ⟨c, l, e, hc⟩ := dec_first h0
    have := dec_all n
    rw [e] at this ⊢
    exact canD_of this (.inr hc)
theorem decV_pos {c : UInt8} {l : List UInt8} (h : isD c = true) (hc : c.toNat ≠ 48) : decV (c :: l) ≠ 0 := by
  have := isD_rng h
  rw [decV_cons]
  have h1 : 1 * 10 ^ l.length ≤ (c.toNat - 48) * 10 ^ l.length := Nat.mul_le_mul_right _ (by omega)
  have h2 : 0 < 10 ^ l.length := Nat.pow_pos (by decide)
  omega
theorem u8_back {c : UInt8} (h : isD c = true) : UInt8.ofNat (48 + (c.toNat - 48)) = c := by
  have := isD_rng h
  rw [show 48 + (c.toNat - 48) = c.toNat by omega, UInt8.ofNat_toNat]
theorem dec_back : ∀ (k : Nat) {l : List UInt8}, l.length = k → canD l = true → Lib.decDigits (decV l) = l
  | 0, l, hl, h => by
    obtain ⟨c, m, rfl, _⟩ := canD_cons h
    cases hl
  | k + 1, l, hl, h => by
    obtain ⟨c, m, rfl, ha, hc⟩ := canD_cons h
    rcases List.eq_nil_or_concat m with rfl | ⟨m', d, rfl⟩
    · rw [List.all_cons, Bool.and_eq_true] at ha
      have := isD_rng ha.1
      rw [decV_one, dec_small (by omega), u8_back ha.1]
    · have hd : c.toNat ≠ 48 := by
        rcases hc with hc | hc
        · simp at hc
        · exact hc
      rw [List.concat_eq_append] at ha hl ⊢
      have e : c :: (m' ++ [d]) = (c :: m') ++ [d] := rfl
      rw [e] at ha ⊢
      rw [List.all_append, Bool.and_eq_true, List.all_cons (a := d), Bool.and_eq_true] at ha
      obtain ⟨a1, a2, _⟩ := ha
      have a1' := a1
      rw [List.all_cons, Bool.and_eq_true] at a1'
      have hp := decV_pos (l := m') a1'.1 hd
      have hr := isD_rng a2
      have ih := dec_back k (l := c :: m') (by simpa using hl) (canD_of a1 (.inr hd))
      have ev : decV ((c :: m') ++ [d]) = decV (c :: m') * 10 + (d.toNat - 48) := by
        rw [decV_append, decV_one]
        rfl
      rw [ev, dec_big (by omega), show (decV (c :: m') * 10 + (d.toNat - 48)) / 10 = decV (c :: m') by omega, show (decV (c :: m') * 10 + (d.toNat - 48)) % 10 = d.toNat - 48 by omega, ih, u8_back a2]
theorem dec_back' {l : List UInt8} (h : canD l = true) : Lib.decDigits (decV l) = l := dec_back l.length rfl h
theorem dec_len : ∀ (k n : Nat), n < 10 ^ (k + 1) → (Lib.decDigits n).length ≤ k + 1
  | 0, n, h => by
    rw [dec_small (by simpa using h)]
    exact Nat.le_refl _
  | k + 1, n, h => by
    by_cases h0 : n < 10
    · rw [dec_small h0]
      show 1 ≤ _
      omega
    · have := dec_len k (n / 10) (by rw [Nat.pow_succ] at h; omega)
      rw [dec_big h0, List.length_append, List.length_singleton]
      omega
theorem dec_pos (n : Nat) : 0 < (Lib.decDigits n).length := by
  by_cases h0 : n < 10
  · rw [dec_small h0]
    exact Nat.zero_lt_one
  · rw [dec_big h0, List.length_append, List.length_singleton]
    omega
def pad9 (r : Nat) : List UInt8 := List.replicate (9 - (Lib.decDigits r).length) 48 ++ Lib.decDigits r
theorem decV_zeros : ∀ (k : Nat) (l : List UInt8), decV (List.replicate k 48 ++ l) = decV l
  | 0, l => rfl
  | k + 1, l => by
    rw [List.replicate_succ, List.cons_append, decV_cons, decV_zeros k l]
    show (48 - 48) * _ + _ = _
    omega
theorem pad9_len {r : Nat} (h : r < 1000000000) : (pad9 r).length = 9 := by
  have := dec_len 8 r (by simpa using h)
  unfold pad9
  rw [List.length_append, List.length_replicate]
  omega
theorem pad9_val (r : Nat) : decV (pad9 r) = r := by
  unfold pad9
  rw [decV_zeros, dec_val]
theorem pad9_all (r : Nat) : (pad9 r).all isD = true := by
  unfold pad9
  rw [List.all_append, dec_all, Bool.and_true, List.all_eq_true]
  intro x hx
  rw [(List.mem_replicate.1 hx).2]
  decide
theorem dec_split {q r : Nat} (h0 : q ≠ 0) (hr : r < 1000000000) : Lib.decDigits (q * 1000000000 + r) = Lib.decDigits q ++ pad9 r := by
  obtain ⟨c, l, e, hc⟩ := dec_first h0
  have ha : (Lib.decDigits q ++ pad9 r).all isD = true := by rw [List.all_append, dec_all, pad9_all]; rfl
  have hcan : canD (Lib.decDigits q ++ pad9 r) = true := by
    rw [e] at ha ⊢
    exact canD_of ha (.inr hc)
  have hv : decV (Lib.decDigits q ++ pad9 r) = q * 1000000000 + r := by
    rw [decV_append, dec_val, pad9_val, pad9_len hr]
  rw [← hv, dec_back' hcan]
theorem parse_M : ∀ (l : List UInt8) (acc : Nat), l.all isD = true → (acc + 1) * 10 ^ l.length ≤ 1000000000 → Lib.parseUintM (2 ^ 32 - 1) acc l = .ok (l.foldl (fun a c => a * 10 + (c.toNat - 48)) acc)
  | [], acc, _, _ => rfl
  | c :: l, acc, h, hb => by
    rw [List.all_cons, Bool.and_eq_true] at h
    have hr := isD_rng h.1
    have hp : 0 < 10 ^ l.length := Nat.pow_pos (by decide)
    rw [List.length_cons, Nat.pow_succ, Nat.mul_comm (10 ^ l.length) 10, ← Nat.mul_assoc] at hb
    have h1 : (acc + 1) * 10 * 1 ≤ (acc + 1) * 10 * 10 ^ l.length := Nat.mul_le_mul_left _ hp
    unfold Lib.parseUintM
    rw [if_pos hr, if_neg (by omega), if_neg (by omega)]
    refine parse_M l _ h.2 (Nat.le_trans (Nat.mul_le_mul_right _ ?_) hb)
    omega
theorem parse_9 {l : List UInt8} (h : l.all isD = true) (h0 : l ≠ []) (h9 : l.length ≤ 9) : Lib.parseUintB 32 l = .ok (decV l) := by
  unfold Lib.parseUintB
  rw [if_neg h0, parse_M l 0 h ?_]
  · rfl
  · have : 10 ^ l.length ≤ 10 ^ 9 := Nat.pow_le_pow_right (by decide) h9
    omega
theorem dw_nil {p : UInt8 → Bool} : ∀ {l : List UInt8}, l.dropWhile p = [] ↔ l.all p = true
  | [] => by simp
  | c :: l => by
    rw [List.dropWhile_cons, List.all_cons]
    cases hc : p c with
    | true => rw [if_pos rfl, dw_nil, Bool.true_and]
    | false => simp
theorem dw_head {p : UInt8 → Bool} {x : UInt8} {r : List UInt8} : ∀ {l : List UInt8}, l.dropWhile p = x :: r → p x = false
  | [], h => by simp at h
  | c :: l, h => by
    rw [List.dropWhile_cons] at h
    cases hc : p c with
    | true => rw [hc, if_pos rfl] at h; exact dw_head h
    | false => rw [hc] at h; simp only [Bool.false_eq_true, if_false, List.cons.injEq] at h; rw [← h.1]; exact hc
def digs10 : List UInt8 := [48, 49, 50, 51, 52, 53, 54, 55, 56, 57]
theorem digs_all : ∀ k : Fin 256, digs10.contains (UInt8.ofNat k.val) = isD (UInt8.ofNat k.val) := by decide +kernel
theorem digs_is (c : UInt8) : digs10.contains c = isD c := by
  have := digs_all ⟨c.toNat, c.toNat_lt⟩
  rwa [UInt8.ofNat_toNat] at this
theorem trim_digs (l : List UInt8) : Lib.trimS l digs10 = [] ↔ l.all isD = true := by
  have e : (fun c => digs10.contains c) = isD := funext digs_is
  unfold Lib.trimS Lib.trimLeftS Lib.trimRightS
  rw [e, dw_nil]
  constructor
  · intro h
    cases hd : l.reverse.dropWhile isD with
    | nil => rw [dw_nil, List.all_reverse] at hd; exact hd
    | cons x r =>
      have h1 := dw_head hd
      rw [hd, List.all_reverse, List.all_cons, h1] at h
      cases h
  · intro h
    rw [show l.reverse.dropWhile isD = [] from dw_nil.2 (by rw [List.all_reverse]; exact h)]
    rfl
end Go.Proofs.YtjoonfegjobgbaaGreatDoor
namespace Go.Proofs.YtjoonfegjobgbaaGreatDoor
open Go Go.RowKit
theorem name_pow10 : (Tryz.prog).globalNamed "internal/strconv.uint64pow10" = some 1 := by kernel_rfl
theorem mem_pow10 : (1, IntKind.u64, Lib.pow10Tab) ∈ globs := by
  unfold globs
  exact List.mem_append_right _ List.mem_cons_self
theorem tab_of {Z : Nat → Prop} {w : World} (h : Glob Z w) : Lib.TabIs Tryz.prog w "internal/strconv.uint64pow10" .u64 Lib.pow10Tab := by
  obtain ⟨_, t, z, h2⟩ := h.1 _ mem_pow10
  unfold Lib.TabIs World.var?
  rw [name_pow10]
  show (match w.heap[1]? with
    | some (.cells cs _ _) => some cs
    | _ => none) = _
  rw [h2]
def dcB (n : Nat) : ByteArray := ⟨(Lib.decDigits n).toArray⟩
theorem dcB_size (n : Nat) : (dcB n).size = (Lib.decDigits n).length := by simp [dcB, ByteArray.size]
theorem dec_len64 {n : Nat} (h : n < 18446744073709551616) : (Lib.decDigits n).length ≤ 20 := dec_len 19 n (Nat.lt_of_lt_of_le h (by decide))
def sp_fmtU : Spec := { q := .un, ps := [.it .u64, .it .i64], rs := [.st], fresh := true, pre := fun _ x => some (@Eq Int x.2.1 10), post := fun _ x => ((), (dcB (Int.toNat x.1), ())) }
theorem fo_fmtU : FnOk Tryz.prog 186 sp_fmtU := by
  refine ⟨callFunc_enter Tryz.func186 (by kernel_rfl) rfl, fun Z w gv vs y x hZ hv hp _ _ => ?_⟩
  obtain ⟨n, b, u⟩ := x
  match vs, hv with
  | [v1, v2], ⟨h1, h2, _⟩ =>
    have hp : (b : Int) = 10 := hp
    subst hp
    obtain ⟨rfl, q0, q1⟩ := rv_int h1
    obtain ⟨rfl, _, _⟩ := rv_int h2
    have q0 : (0 : Int) ≤ n := q0
    have q1 : (n : Int) ≤ 18446744073709551615 := q1
    obtain ⟨k, rfl⟩ : ∃ k : Nat, n = (k : Int) := ⟨Int.toNat n, (Int.toNat_of_nonneg q0).symm⟩
    have q1 : k ≤ 18446744073709551615 := Int.ofNat_le.1 q1
    refine (fmtU_any k (by omega) w (tab_of hZ.gl)).mono fun e w' ⟨e1, e2⟩ => ?_
    subst e1
    exact told_new (S := sp_fmtU) (r := (dcB k, ())) (us := [_]) (bs := []) rfl rfl (.inl ⟨_, rfl, rfl⟩) hZ ⟨[], [], rfl, rq_str (base := w.heap.size) (x := dcB k) (by rw [dcB_size]; exact Nat.le_trans (dec_len64 (by omega)) (by decide)), rfl⟩ List.nodup_nil (fun g hg => by simp at hg) e2
def rpB (s : ByteArray) (n : Nat) : ByteArray := ⟨(Lib.repeatL s.data.toList n).toArray⟩
theorem rpB_size (s : ByteArray) (n : Nat) : (rpB s n).size = n * s.size := by
  show (Lib.repeatL s.data.toList n).toArray.size = _
  rw [List.size_toArray, Lib.repeatL_length]
  rfl
def sp_sRep : Spec := { q := .un, ps := [.st, .it .i64], rs := [.st], fresh := true, pre := fun _ x => some (@LE.le Int _ 0 x.2.1 ∧ @LE.le Int _ x.2.1 1000 ∧ ByteArray.size x.1 ≤ 1000), post := fun _ x => ((), (rpB x.1 (Int.toNat x.2.1), ())) }
theorem fo_sRep : FnOk Tryz.prog 187 sp_sRep := by
  refine ⟨callFunc_enter Tryz.func187 (by kernel_rfl) rfl, fun Z w gv vs y x hZ hv hp _ _ => ?_⟩
  obtain ⟨s, n, u⟩ := x
  match vs, hv with
  | [v1, v2], ⟨h1, h2, _⟩ =>
    obtain ⟨p0, p1, p2⟩ : (0 : Int) ≤ (n : Int) ∧ (n : Int) ≤ 1000 ∧ ByteArray.size s ≤ 1000 := hp
    obtain ⟨rfl, _⟩ := rv_str h1
    obtain ⟨rfl, _, _⟩ := rv_int h2
    obtain ⟨k, rfl⟩ : ∃ k : Nat, n = (k : Int) := ⟨Int.toNat n, (Int.toNat_of_nonneg p0).symm⟩
    have hk : k ≤ 1000 := Int.ofNat_le.1 p1
    have hm : s.size * k ≤ 1000 * 1000 := Nat.mul_le_mul p2 hk
    refine (Sh.strings_Repeat s k w (by omega) (Nat.le_trans hm (by decide))).mono fun e w' ⟨e1, e2⟩ => ?_
    subst e1
    exact told_new (S := sp_sRep) (r := (rpB s k, ())) (us := [_]) (bs := []) rfl rfl (.inl ⟨_, rfl, rfl⟩) hZ ⟨[], [], rfl, rq_str (base := w.heap.size) (x := rpB s k) (by rw [rpB_size, Nat.mul_comm]; exact Nat.le_trans hm (by decide)), rfl⟩ List.nodup_nil (fun g hg => by simp at hg) e2
def jnB (l : List ByteArray) (p : ByteArray) : ByteArray := ⟨(Lib.join (l.map (·.data.toList)) p.data.toList).toArray⟩
theorem jnB_size (l : List ByteArray) (p : ByteArray) : (jnB l p).size = (Lib.join (l.map (·.data.toList)) p.data.toList).length := by simp [jnB, ByteArray.size]
def sp_sJoin : Spec := { q := .un, ps := [.sl .st, .st], rs := [.st], fresh := true, pre := fun _ x => some (List.length x.1 ≤ 140737488355328 ∧ (jnB x.1 x.2.1).size ≤ 140737488355328), post := fun _ x => ((), (jnB x.1 x.2.1, ())) }
theorem fo_sJoin : FnOk Tryz.prog 117 sp_sJoin := by
  refine ⟨callFunc_enter Tryz.func117 (by kernel_rfl) rfl, fun Z w gv vs y x hZ hv hp _ _ => ?_⟩
  obtain ⟨l, p, u⟩ := x
  match vs, hv with
  | [v1, v2], ⟨h1, h2, _⟩ =>
    obtain ⟨p1, p2⟩ : List.length l ≤ 140737488355328 ∧ (jnB l p).size ≤ 140737488355328 := hp
    obtain ⟨rfl, s2⟩ := rv_str h2
    unfold RV at h1
    rw [if_neg (by simp [Ty.agg]), RT] at h1
    obtain ⟨A, c, e1, h3, h4, h5, h6⟩ := h1
    rw [List.singleton_inj] at e1
    subst e1
    have fin : Calls Tryz.prog 117 #[.slice A l.length c, .string p] w fun e w' => e = .returned (.string (jnB l p)) ∧ Ext w w' := by
      rcases Nat.eq_zero_or_pos l.length with h0 | h0
      · have hl : l = [] := List.eq_nil_of_length_eq_zero h0
        subst hl
        refine (Sh.strings_Join_none A c p w).mono fun e w' ⟨e1, e2⟩ => ?_
        subst e1 e2
        exact ⟨rfl, Ext.refl _⟩
      · obtain ⟨g, o, us, rfl, z1, _, _⟩ := h6 0 h0
        refine (Sh.strings_Join g o c l p w (fun j x hj => ?_) (hZ.lt g z1) p1 h3 (by rw [← jnB_size]; exact p2)).mono fun e w' ⟨e1, e2⟩ => ⟨e1, e2⟩
        have hjl := (List.getElem?_eq_some_iff.1 hj).1
        obtain ⟨g', o', us', e2, _, k2, k3⟩ := h6 j hjl
        cases e2
        rw [RT] at k2
        obtain ⟨k2, _⟩ := k2
        subst k2
        have := k3 0 _ rfl
        have e4 : o + (j * Ty.st.size + 0) = o + j := by show o + (j * 1 + 0) = _; omega
        rw [e4] at this
        rw [this]
        rw [List.getElem?_eq_getElem hjl] at hj
        cases hj
        rfl
    refine fin.mono fun e w' ⟨e1, e2⟩ => ?_
    subst e1
    exact told_new (S := sp_sJoin) (r := (jnB l p, ())) (us := [_]) (bs := []) rfl rfl (.inl ⟨_, rfl, rfl⟩) hZ ⟨[], [], rfl, rq_str (base := w.heap.size) (x := jnB l p) (Nat.le_trans p2 (by decide)), rfl⟩ List.nodup_nil (fun g hg => by simp at hg) e2
def trB (s : ByteArray) : ByteArray := ⟨(Lib.trimS s.data.toList digs10).toArray⟩
theorem dw_le (p : UInt8 → Bool) : ∀ l : List UInt8, (l.dropWhile p).length ≤ l.length
  | [] => Nat.le_refl _
  | c :: l => by
    rw [List.dropWhile_cons]
    split
    · exact Nat.le_trans (dw_le p l) (Nat.le_succ _)
    · exact Nat.le_refl _
theorem trB_size (s : ByteArray) : (trB s).size ≤ s.size := by
  show (Lib.trimS s.data.toList digs10).toArray.size ≤ s.data.size
  rw [List.size_toArray]
  unfold Lib.trimS Lib.trimLeftS Lib.trimRightS
  refine Nat.le_trans (dw_le _ _) ?_
  rw [List.length_reverse]
  refine Nat.le_trans (dw_le _ _) ?_
  rw [List.length_reverse]
  exact Nat.le_refl _
def sp_sTrim : Spec := { q := .un, ps := [.st, .st], rs := [.st], fresh := true, pre := fun _ x => some (x.2.1 = dig10), post := fun _ x => ((), (trB x.1, ())) }
theorem fo_sTrim : FnOk Tryz.prog 173 sp_sTrim := by
  refine ⟨callFunc_enter Tryz.func173 (by kernel_rfl) rfl, fun Z w gv vs y x hZ hv hp _ _ => ?_⟩
  obtain ⟨s, p, u⟩ := x
  match vs, hv with
  | [v1, v2], ⟨h1, h2, _⟩ =>
    have hp : p = dig10 := hp
    subst hp
    obtain ⟨rfl, s1⟩ := rv_str h1
    obtain ⟨rfl, s2⟩ := rv_str h2
    refine (Sh.strings_Trim_set s dig10 w s1 (by decide) (fun j b hb => (show ∀ b ∈ dig10.data.toList, b.toNat < 128 by decide) b (List.mem_of_getElem? hb))).mono fun e w' ⟨e1, e2⟩ => ?_
    subst e1
    exact told_new (S := sp_sTrim) (r := (trB s, ())) (us := [_]) (bs := []) rfl rfl (.inl ⟨_, rfl, rfl⟩) hZ ⟨[], [], rfl, rq_str (base := w.heap.size) (x := trB s) (Nat.le_trans (trB_size s) s1), rfl⟩ List.nodup_nil (fun g hg => by simp at hg) e2
def sp_aCheck : Spec := { q := .un, ps := [tW32], rs := [.it .i64], fresh := true, pre := fun _ x => some (nrm x.1 ∧ x.1.length ≤ 2048), post := fun _ x => ((), (0, ())) }
theorem fo_aCheck : FnOk Tryz.prog 86 sp_aCheck := by
  refine ⟨callFunc_enter Tryz.func86 (by kernel_rfl) rfl, fun Z w gv vs y x hZ hv hp _ _ => ?_⟩
  obtain ⟨xs, u⟩ := x
  match vs, hv with
  | [u], ⟨h1, _⟩ =>
    obtain ⟨p1, p2⟩ : nrm xs ∧ xs.length ≤ 2048 := hp
    obtain ⟨n, rfl⟩ := nrm_ex p1
    obtain ⟨A, c, rfl, k1, _⟩ := rv_wd h1
    refine (check_any A _ c w k1).mono fun e w' ⟨e1, e2⟩ => ?_
    subst e1 e2
    rw [chk_wd n (by omega)]
    exact told_new (S := sp_aCheck) (r := ((0 : Int), ())) (us := [_]) (bs := []) rfl rfl (.inl ⟨_, rfl, rfl⟩) hZ ⟨[], [], rfl, rq_err (base := w.heap.size) Er.zero, rfl⟩ List.nodup_nil (fun g hg => by simp at hg) (Ext.refl _)
theorem rev_ok : RevOk Tryz.prog 188 := by
  refine ⟨callFunc_enter Tryz.func188 (by kernel_rfl) rfl, fun g c xs w h hm => ?_⟩
  have cells : ∀ i, i < xs.length → w.cell? ⟨g, 0 + i, none⟩ = some (.string (xs.getD i ByteArray.empty)) := fun i hi => by
    rw [Nat.zero_add]
    have e0 : (⟨g, i, none⟩ : Addr) = (⟨g, 0, none⟩ : Addr).add i := by unfold Addr.add; split <;> simp_all
    rw [World.ownsRow.cellAt h i (by simpa using hi)]
    rw [List.getElem?_map, List.getElem?_eq_getElem hi, List.getD_eq_getElem?_getD, List.getElem?_eq_getElem hi]
    rfl
  refine (Sh.slices_Reverse_string_cells g 0 xs.length c (fun i => xs.getD i ByteArray.empty) w hm cells (fun j _ => by rw [Nat.zero_add]; exact World.ownsRow.frozenAt h j)).mono ?_
  rintro e w' ⟨rfl, q, rfl⟩
  have h' : (w.drewN q).ownsRow 0 9 1 (.slice (some ⟨g, 0, none⟩) xs.length c) xs.length (xs.map Value.string) := h
  have e1 : (Lib.strsOf (fun i => xs.getD i ByteArray.empty) xs.length).reverse.map encStr = xs.reverse.map Value.string := by
    rw [List.map_reverse, List.map_reverse]
    congr 1
    refine List.ext_getElem? fun i => ?_
    unfold Lib.strsOf
    rw [List.getElem?_map, List.getElem?_map, List.getElem?_map]
    by_cases hi : i < xs.length
    · rw [List.getElem?_range hi, List.getElem?_eq_getElem hi]
      show some (encStr (xs.getD i ByteArray.empty).data.toList) = some (Value.string xs[i])
      rw [List.getD_eq_getElem?_getD, List.getElem?_eq_getElem hi]
      unfold encStr
      rfl
    · rw [List.getElem?_eq_none (by simpa using hi), List.getElem?_eq_none (by omega)]
      rfl
  rw [e1]
  have hl : (xs.reverse.map Value.string).length = xs.length := by simp
  obtain ⟨k1, k2⟩ := own_cells (xs.reverse.map Value.string) 0 _ (w.drewN q) h' (by rw [hl]; omega)
  refine ⟨rfl, ?_, grown_trans ((Ext.refl w).drewN q |>.by_ _) k2⟩
  rw [List.take_zero, List.nil_append, Nat.zero_add, hl, List.drop_of_length_le (by simp), List.append_nil] at k1
  exact k1
def smallF_ : RowF := { ks := [.u32], pre := fun l z => nrm l ∧ l.length ≤ 8192 ∧ z = [1000000000], f := fun l _ => (wd (toN l / 1000000000), ((toN l % 1000000000 : Nat) : Int)), k := some .u32 }
theorem row_small : RowOk Tryz.prog 177 smallF_ := by
  refine ⟨callFunc_enter Tryz.func177 (by kernel_rfl) rfl, fun base A c l zs w hb h hw hl hp => ?_⟩
  obtain ⟨p1, p2, p3⟩ : nrm l ∧ l.length ≤ 8192 ∧ zs = [1000000000] := hp
  subst p3
  obtain ⟨n, rfl⟩ := nrm_ex p1
  refine (small_any A n 1000000000 c base w h (by omega) (by omega) (by omega) (n / 1000000000) (n % 1000000000) rfl rfl).mono fun e w' ⟨e1, e2, e3⟩ => ?_
  subst e1
  have m := Nat.mod_lt n (show 1000000000 > 0 by decide)
  refine ⟨A, c, ?_, ?_, ?_, fun a ha => .inl (by rw [ha]; rfl), e3, fun k hk => ?_⟩
  · show Ending.returned (.tuple #[.slice A (wd (n / 1000000000)).length c, .int .u32 ((n % 1000000000 : Nat) : Int)]) = Ending.returned (.tuple #[.slice A (wd (toN (wd n) / 1000000000)).length c, .int .u32 ((toN (wd n) % 1000000000 : Nat) : Int)])
    rw [toN_wd]
  · show Own w' base A c (wd (toN (wd n) / 1000000000))
    rw [toN_wd]
    exact e2
  · exact wf_wd _
  · cases hk
    show IntKind.u32.min ≤ ((toN (wd n) % 1000000000 : Nat) : Int) ∧ ((toN (wd n) % 1000000000 : Nat) : Int) ≤ IntKind.u32.max
    rw [toN_wd]
    exact ⟨Int.le_trans (by decide) (Int.natCast_nonneg _), Int.le_trans (show ((n % 1000000000 : Nat) : Int) ≤ 1000000000 by omega) (by decide)⟩
def growF_ : RowF := { ks := [.u32, .u32], pre := fun l z => nrm l ∧ l.length ≤ 8192 ∧ ∃ x : Int, z = [1000000000, x] ∧ 0 ≤ x ∧ x < 4294967296, f := fun l z => (wd (toN l * 1000000000 + (z.getD 1 0).toNat), 0), k := none }
theorem row_grow : RowOk Tryz.prog 175 growF_ := by
  refine ⟨callFunc_enter Tryz.func175 (by kernel_rfl) rfl, fun base A c l zs w hb h hw hl hp => ?_⟩
  obtain ⟨p1, p2, x, p3, p4, p5⟩ : nrm l ∧ l.length ≤ 8192 ∧ ∃ x : Int, zs = [1000000000, x] ∧ 0 ≤ x ∧ x < 4294967296 := hp
  subst p3
  obtain ⟨n, rfl⟩ := nrm_ex p1
  obtain ⟨k, rfl⟩ : ∃ k : Nat, x = (k : Int) := ⟨x.toNat, (Int.toNat_of_nonneg p4).symm⟩
  refine (grow_any A n 1000000000 k c base w h hb (by omega) (by omega) (by omega) p2).mono fun e w' ⟨A', c', e1, e2, e3, e4⟩ => ?_
  subst e1
  have ev : wd (toN (wd n) * 1000000000 + ([1000000000, (k : Int)].getD 1 0).toNat) = wd (n * 1000000000 + k) := by
    rw [toN_wd]
    rfl
  refine ⟨A', c', ?_, ?_, wf_wd _, e3, e4, fun k hk => by cases hk⟩
  · show Ending.returned (.slice A' (wd (n * 1000000000 + k)).length c') = Ending.returned (.slice A' (wd (toN (wd n) * 1000000000 + ([1000000000, (k : Int)].getD 1 0).toNat)).length c')
    rw [ev]
  · show Own w' base A' c' (wd (toN (wd n) * 1000000000 + ([1000000000, (k : Int)].getD 1 0).toNat))
    rw [ev]
    exact e2
def toldF_ : RowF := { ks := [], pre := fun l _ => nrm l ∧ l.length ≤ 8192, f := fun l _ => (l, 0), k := some .i64 }
theorem row_told : RowOk Tryz.prog 143 toldF_ := by
  refine ⟨callFunc_enter Tryz.func143 (by kernel_rfl) rfl, fun base A c l zs w hb h hw hl hp => ?_⟩
  obtain ⟨p1, p2⟩ : nrm l ∧ l.length ≤ 8192 := hp
  obtain rfl : zs = [] := List.eq_nil_of_length_eq_zero hl
  obtain ⟨n, rfl⟩ := nrm_ex p1
  refine (told_ok A (wd n) c base _ w h rfl (wf_wd n) n (val_wd n) p2).mono fun e w' ⟨e1, e2, e3⟩ => ?_
  subst e1 e3
  exact ⟨A, c, rfl, e2, wf_wd n, fun a ha => .inl (by rw [ha]; rfl), World.grownBy.refl w _, fun k hk => by cases hk; exact ⟨show IntKind.i64.min ≤ 0 by decide, show (0 : Int) ≤ IntKind.i64.max by decide⟩⟩
def p_pu : Prim := fun xs _ n => match xs with
  | [.c (.sc (.string s)), .c (.sc (.int .i64 b)), .c (.sc (.int .i64 z))] => some (some (s.data.toList.all isD = true ∧ 0 < s.size ∧ s.size ≤ 9 ∧ b = 10 ∧ z = 32), .g Nat (decV s.data.toList) fun r => ⟨.tu [(false, [.sc (.int .u64 (r : Int))]), (false, [.bad])], [], 0⟩)
  | _ => none
theorem pr_pu : PrimOk Tryz.prog 174 p_pu := by
  refine ⟨callFunc_enter Tryz.func174 (by kernel_rfl) rfl, fun gp Z0 w0 N D c T O O' a w xs vs n cd G S hO hl hv h hfr hc => ?_⟩
  unfold p_pu at h
  split at h
  · rename_i s b z
    cases h
    obtain ⟨q1, q2, q3, rfl, rfl⟩ : s.data.toList.all isD = true ∧ 0 < s.size ∧ s.size ≤ 9 ∧ b = 10 ∧ z = 32 := hc
    match vs, hl with
    | ⟨[v0, v1, v2]⟩, _ =>
      obtain ⟨rfl, _⟩ := hv 0 v0 _ rfl rfl
      obtain ⟨rfl, _⟩ := hv 1 v1 _ rfl rfl
      obtain ⟨rfl, _⟩ := hv 2 v2 _ rfl rfl
      have hln : s.data.toList.length = s.size := by simp
      have hlt := decV_lt q1
      have h9 : 10 ^ s.data.toList.length ≤ 10 ^ 9 := Nat.pow_le_pow_right (by decide) (by omega)
      have hp := parse_9 q1 (fun e => by rw [e] at hln; simp at hln; omega) (by omega)
      refine (Sh.strconv_ParseUint_10_at32_ok s (by omega) _ hp w).mono fun e w' ⟨e1, e2⟩ => ?_
      subst e1
      have hx : Ext w w' := bw_ext e2
      have st : Stay c.Z w w' := fun k hz => Below.block hx k (S.zl k hz)
      refine ⟨_, c, rfl, fun d hd => ?_⟩
      refine S.step hd (Cf.Le.refl c) st ⟨_, rfl, rfl, fun i v p e1 e2 => ?_⟩ (fun k o q1 _ q3 f b q4 q5 => Below.block hx b ((S.obj k o q1).lt q3 f b q4 q5)) (fun _ _ h => by cases h) (fun _ _ _ _ h => by cases h) (fun _ _ _ _ _ _ _ h => by cases h) (fun k hk => ⟨Nat.lt_of_lt_of_le (S.zl k hk) (Below.size hx), S.zz k hk, fun i o e h1 _ h2 h3 => fun hh => S.zo i o e k h1 h2 h3 hh hk⟩) (fun i e h => .inl (S.dom i e h)) (grown_ext S.gr hx) (fun _ _ _ _ h => by cases h)
      match i, e1, e2 with
      | 0, e1, e2 =>
        cases e1
        cases e2
        unfold RP
        rw [if_neg (by simp)]
        exact ⟨_, rfl, rfl, show IntKind.u64.min ≤ ((decV s.data.toList : Nat) : Int) from Int.le_trans (by decide) (Int.natCast_nonneg _), show ((decV s.data.toList : Nat) : Int) ≤ IntKind.u64.max from Int.le_trans (show ((decV s.data.toList : Nat) : Int) ≤ 1000000000 by omega) (by decide)⟩
      | 1, e1, e2 =>
        cases e1
        cases e2
        unfold RP
        rw [if_neg (by simp)]
        exact ⟨_, rfl, rfl⟩
      | i + 2, e1, _ => simp at e1
  · cases h
def sp_clone : Spec := { q := .un, ps := [tW32], rs := [tW32], fresh := true, pre := fun _ x => some (x.1.length ≤ 35184372088832), post := fun _ x => ((), (x.1, ())) }
theorem fo_clone : FnOk Tryz.prog 139 sp_clone := by
  refine ⟨callFunc_enter Tryz.func139 (by kernel_rfl) rfl, fun Z w gv vs y x hZ hv hp _ _ => ?_⟩
  obtain ⟨xs, u⟩ := x
  match vs, hv with
  | [v], ⟨h1, _⟩ =>
    obtain ⟨A, c, rfl, k1, kw⟩ := rv_wd h1
    refine (clone_any A xs c w k1 hp).mono fun e w' ⟨A', c', e1, e2, e3⟩ => ?_
    subst e1
    exact told_new (S := sp_clone) (r := (xs, ())) (us := [.slice A' xs.length c']) (bs := blkA A') rfl rfl (.inl ⟨_, rfl, rfl⟩) hZ ⟨_, [], (List.append_nil _).symm, rq_own e2 kw, rfl⟩ (blkA1_nodup A') (blkA1_base e2) e3
end Go.Proofs.YtjoonfegjobgbaaGreatDoor
