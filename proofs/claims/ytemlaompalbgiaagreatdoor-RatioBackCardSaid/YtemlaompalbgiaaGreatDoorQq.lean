/- Texts of this claim, joined: Sh2 H2 E6 Sh3 H3 H5. -/
import Derived.Shelf.Small.Wraps
import Derived.Ground.MpProg
import Derived.Shelf.Pu.ParseUintPublic10
import Derived.Shelf.Strings.Search2
import Derived.Shelf.Strings.Trim
import Derived.Test.YtemlaompalbgiaaGreatDoorProg
import Derived.Shelf.Strings.SlTrimAscii
import Derived.Lib.AtoiErrMem
import Derived.WideShapes
import Derived.Shelf.Strings.OnBuilder
import Derived.Shelf.Strings.Repeat
import Derived.Shelf.Strconv.Itoa3
import Derived.Shelf.Slices.Cells
import Derived.Lib.AppendIntMem
import Derived.Deep.AppendLies
import Derived.Test.YtemlaompalbgiaaGreatDoorQp
set_option linter.unusedVariables false
set_option linter.unusedSimpArgs false
set_option maxRecDepth 100000
namespace Go.Proofs.YtemlaompalbgiaaGreatDoor
open Go.Shelf
def Sh.lays103_ren : Go.Shelf.Ren := ⟨fun | 103 => 127 | 210 => 205 | 206 => 254 | n => n, fun | 9 => 9 | 4 => 4 | 24 => 153 | 3 => 3 | n => n, fun | n => n⟩
theorem Sh.lays103 : Go.Proofs.Lays.n103 Tryz.prog Sh.lays103_ren := {
  mixed := by kernel_rfl
  f103 := Tryz.func127.trans (congrArg some (by kernel_rfl))
  f206 := Tryz.func254.trans (congrArg some (by kernel_rfl))
  f210 := Tryz.func205.trans (congrArg some (by kernel_rfl))
  t3 := Tryz.underlying3
  a3 := Tryz.isAgg3
  z3 := Tryz.sizeOf3
  v3 := Tryz.zeroValue3
  t4 := Tryz.underlying4
  a4 := Tryz.isAgg4
  z4 := Tryz.sizeOf4
  v4 := Tryz.zeroValue4
  t9 := Tryz.underlying9
  a9 := Tryz.isAgg9
  z9 := Tryz.sizeOf9
  v9 := Tryz.zeroValue9
  t24 := Tryz.underlying153
  a24 := Tryz.isAgg153
  z24 := Tryz.sizeOf153
  v24 := Tryz.zeroValue153 }
def Sh.lays160_ren : Go.Shelf.Ren := ⟨fun | 160 => 206 | 232 => 256 | 231 => 255 | 227 => 257 | 234 => 259 | 233 => 258 | 236 => 261 | 235 => 260 | 228 => 309 | 271 => 312 | 151 => 311 | 197 => 310 | 120 => 352 | 152 => 351 | 260 => 350 | 137 => 363 | 119 => 364 | 224 => 287 | 225 => 286 | 217 => 285 | 266 => 333 | n => n, fun | 9 => 9 | 4 => 4 | 3 => 3 | 5 => 5 | 117 => 254 | 116 => 253 | 0 => 0 | 124 => 257 | 21 => 21 | 105 => 288 | 46 => 198 | 119 => 318 | 139 => 321 | 138 => 320 | n => n, fun | 3 => 4 | 4 => 5 | n => n⟩
theorem Sh.lays160 : Go.Proofs.Lays.n160 Tryz.prog Sh.lays160_ren := {
  mixed := by kernel_rfl
  f119 := Tryz.func364.trans (congrArg some (by kernel_rfl))
  f120 := Tryz.func352.trans (congrArg some (by kernel_rfl))
  f137 := Tryz.func363.trans (congrArg some (by kernel_rfl))
  f151 := Tryz.func311.trans (congrArg some (by kernel_rfl))
  f152 := Tryz.func351.trans (congrArg some (by kernel_rfl))
  f160 := Tryz.func206.trans (congrArg some (by kernel_rfl))
  f197 := Tryz.func310.trans (congrArg some (by kernel_rfl))
  f217 := Tryz.func285.trans (congrArg some (by kernel_rfl))
  f224 := Tryz.func287.trans (congrArg some (by kernel_rfl))
  f225 := Tryz.func286.trans (congrArg some (by kernel_rfl))
  f227 := Tryz.func257.trans (congrArg some (by kernel_rfl))
  f228 := Tryz.func309.trans (congrArg some (by kernel_rfl))
  f231 := Tryz.func255.trans (congrArg some (by kernel_rfl))
  f232 := Tryz.func256.trans (congrArg some (by kernel_rfl))
  f233 := Tryz.func258.trans (congrArg some (by kernel_rfl))
  f234 := Tryz.func259.trans (congrArg some (by kernel_rfl))
  f235 := Tryz.func260.trans (congrArg some (by kernel_rfl))
  f236 := Tryz.func261.trans (congrArg some (by kernel_rfl))
  f260 := Tryz.func350.trans (congrArg some (by kernel_rfl))
  f266 := Tryz.func333.trans (congrArg some (by kernel_rfl))
  f271 := Tryz.func312.trans (congrArg some (by kernel_rfl))
  t0 := Tryz.underlying0
  a0 := Tryz.isAgg0
  z0 := Tryz.sizeOf0
  v0 := Tryz.zeroValue0
  t3 := Tryz.underlying3
  a3 := Tryz.isAgg3
  z3 := Tryz.sizeOf3
  v3 := Tryz.zeroValue3
  t4 := Tryz.underlying4
  a4 := Tryz.isAgg4
  z4 := Tryz.sizeOf4
  v4 := Tryz.zeroValue4
  t5 := Tryz.underlying5
  a5 := Tryz.isAgg5
  z5 := Tryz.sizeOf5
  v5 := Tryz.zeroValue5
  t9 := Tryz.underlying9
  a9 := Tryz.isAgg9
  z9 := Tryz.sizeOf9
  v9 := Tryz.zeroValue9
  t21 := Tryz.underlying21
  a21 := Tryz.isAgg21
  z21 := Tryz.sizeOf21
  v21 := Tryz.zeroValue21
  t46 := Tryz.underlying198
  a46 := Tryz.isAgg198
  z46 := Tryz.sizeOf198
  v46 := Tryz.zeroValue198
  t105 := Tryz.underlying288
  a105 := Tryz.isAgg288
  z105 := Tryz.sizeOf288
  v105 := Tryz.zeroValue288
  t116 := Tryz.underlying253
  a116 := Tryz.isAgg253
  z116 := Tryz.sizeOf253
  t117 := Tryz.underlying254
  a117 := Tryz.isAgg254
  z117 := Tryz.sizeOf254
  v117 := Tryz.zeroValue254
  t119 := Tryz.underlying318
  a119 := Tryz.isAgg318
  z119 := Tryz.sizeOf318
  t124 := Tryz.underlying257
  a124 := Tryz.isAgg257
  z124 := Tryz.sizeOf257
  v124 := Tryz.zeroValue257
  t138 := Tryz.underlying320
  a138 := Tryz.isAgg320
  z138 := Tryz.sizeOf320
  v138 := Tryz.zeroValue320
  t139 := Tryz.underlying321
  a139 := Tryz.isAgg321
  z139 := Tryz.sizeOf321
  v139 := Tryz.zeroValue321
  g3 := by kernel_rfl
  g4 := by kernel_rfl }
def Sh.lays219_ren : Go.Shelf.Ren := ⟨fun | 219 => 234 | 217 => 285 | 225 => 286 | 224 => 287 | 267 => 288 | 266 => 333 | 314 => 334 | n => n, fun | 9 => 9 | 3 => 3 | 4 => 4 | 5 => 5 | 46 => 198 | 146 => 284 | 51 => 91 | n => n, fun | 1 => 0 | n => n⟩
theorem Sh.lays219 : Go.Proofs.Lays.n219 Tryz.prog Sh.lays219_ren := {
  mixed := by kernel_rfl
  f217 := Tryz.func285.trans (congrArg some (by kernel_rfl))
  f219 := Tryz.func234.trans (congrArg some (by kernel_rfl))
  f224 := Tryz.func287.trans (congrArg some (by kernel_rfl))
  f225 := Tryz.func286.trans (congrArg some (by kernel_rfl))
  f266 := Tryz.func333.trans (congrArg some (by kernel_rfl))
  f267 := Tryz.func288.trans (congrArg some (by kernel_rfl))
  f314 := Tryz.func334.trans (congrArg some (by kernel_rfl))
  t3 := Tryz.underlying3
  a3 := Tryz.isAgg3
  z3 := Tryz.sizeOf3
  v3 := Tryz.zeroValue3
  t4 := Tryz.underlying4
  a4 := Tryz.isAgg4
  z4 := Tryz.sizeOf4
  v4 := Tryz.zeroValue4
  t5 := Tryz.underlying5
  a5 := Tryz.isAgg5
  z5 := Tryz.sizeOf5
  v5 := Tryz.zeroValue5
  t9 := Tryz.underlying9
  a9 := Tryz.isAgg9
  z9 := Tryz.sizeOf9
  v9 := Tryz.zeroValue9
  t46 := Tryz.underlying198
  a46 := Tryz.isAgg198
  z46 := Tryz.sizeOf198
  v46 := Tryz.zeroValue198
  t51 := Tryz.underlying91
  a51 := Tryz.isAgg91
  z51 := Tryz.sizeOf91
  v51 := Tryz.zeroValue91
  t146 := Tryz.underlying284
  a146 := Tryz.isAgg284
  z146 := Tryz.sizeOf284
  v146 := Tryz.zeroValue284
  g1 := by kernel_rfl }
def Sh.laysPu14_ren : Go.Shelf.Ren := ⟨fun | 14 => 207 | 16 => 262 | 17 => 263 | 19 => 313 | 20 => 314 | 21 => 315 | 22 => 316 | 23 => 317 | 24 => 318 | 25 => 353 | 27 => 192 | 26 => 354 | 28 => 247 | 29 => 301 | 30 => 303 | 31 => 304 | 32 => 305 | 33 => 306 | 35 => 346 | 34 => 345 | 36 => 347 | 37 => 348 | 38 => 349 | 39 => 361 | 40 => 362 | n => n, fun | 9 => 9 | 3 => 3 | 22 => 211 | 24 => 217 | 25 => 218 | 4 => 4 | 34 => 291 | 5 => 5 | 36 => 198 | 37 => 230 | 0 => 0 | 39 => 293 | 21 => 21 | 44 => 314 | 47 => 266 | 50 => 325 | 48 => 323 | 2 => 2 | 52 => 279 | 55 => 282 | 59 => 307 | 60 => 91 | 20 => 20 | 61 => 308 | 65 => 328 | 66 => 329 | 67 => 236 | n => n, fun | 0 => 2 | 1 => 3 | 2 => 1 | 3 => 6 | 4 => 7 | n => n⟩
theorem Sh.laysPu14 : Go.Proofs.LaysPu.n14 Tryz.prog Sh.laysPu14_ren := {
  mixed := by kernel_rfl
  f14 := Tryz.func207.trans (congrArg some (by kernel_rfl))
  f16 := Tryz.func262.trans (congrArg some (by kernel_rfl))
  f17 := Tryz.func263.trans (congrArg some (by kernel_rfl))
  f19 := Tryz.func313.trans (congrArg some (by kernel_rfl))
  f20 := Tryz.func314.trans (congrArg some (by kernel_rfl))
  f21 := Tryz.func315.trans (congrArg some (by kernel_rfl))
  f22 := Tryz.func316.trans (congrArg some (by kernel_rfl))
  f23 := Tryz.func317.trans (congrArg some (by kernel_rfl))
  f24 := Tryz.func318.trans (congrArg some (by kernel_rfl))
  f25 := Tryz.func353.trans (congrArg some (by kernel_rfl))
  f26 := Tryz.func354.trans (congrArg some (by kernel_rfl))
  f27 := Tryz.func192.trans (congrArg some (by kernel_rfl))
  f28 := Tryz.func247.trans (congrArg some (by kernel_rfl))
  f29 := Tryz.func301.trans (congrArg some (by kernel_rfl))
  f30 := Tryz.func303.trans (congrArg some (by kernel_rfl))
  f31 := Tryz.func304.trans (congrArg some (by kernel_rfl))
  f32 := Tryz.func305.trans (congrArg some (by kernel_rfl))
  f33 := Tryz.func306.trans (congrArg some (by kernel_rfl))
  f34 := Tryz.func345.trans (congrArg some (by kernel_rfl))
  f35 := Tryz.func346.trans (congrArg some (by kernel_rfl))
  f36 := Tryz.func347.trans (congrArg some (by kernel_rfl))
  f37 := Tryz.func348.trans (congrArg some (by kernel_rfl))
  f38 := Tryz.func349.trans (congrArg some (by kernel_rfl))
  f39 := Tryz.func361.trans (congrArg some (by kernel_rfl))
  f40 := Tryz.func362.trans (congrArg some (by kernel_rfl))
  t0 := Tryz.underlying0
  a0 := Tryz.isAgg0
  z0 := Tryz.sizeOf0
  v0 := Tryz.zeroValue0
  i0 := by kernel_rfl
  t2 := Tryz.underlying2
  a2 := Tryz.isAgg2
  z2 := Tryz.sizeOf2
  v2 := Tryz.zeroValue2
  i2 := by kernel_rfl
  t3 := Tryz.underlying3
  a3 := Tryz.isAgg3
  z3 := Tryz.sizeOf3
  v3 := Tryz.zeroValue3
  i3 := by kernel_rfl
  t4 := Tryz.underlying4
  a4 := Tryz.isAgg4
  z4 := Tryz.sizeOf4
  v4 := Tryz.zeroValue4
  i4 := by kernel_rfl
  t5 := Tryz.underlying5
  a5 := Tryz.isAgg5
  z5 := Tryz.sizeOf5
  v5 := Tryz.zeroValue5
  i5 := by kernel_rfl
  t9 := Tryz.underlying9
  a9 := Tryz.isAgg9
  z9 := Tryz.sizeOf9
  v9 := Tryz.zeroValue9
  i9 := by kernel_rfl
  t20 := Tryz.underlying20
  a20 := Tryz.isAgg20
  z20 := Tryz.sizeOf20
  v20 := Tryz.zeroValue20
  i20 := by kernel_rfl
  t21 := Tryz.underlying21
  a21 := Tryz.isAgg21
  z21 := Tryz.sizeOf21
  v21 := Tryz.zeroValue21
  i21 := by kernel_rfl
  t22 := Tryz.underlying211
  a22 := Tryz.isAgg211
  z22 := Tryz.sizeOf211
  v22 := Tryz.zeroValue211
  i22 := by kernel_rfl
  t24 := Tryz.underlying217
  a24 := Tryz.isAgg217
  z24 := Tryz.sizeOf217
  v24 := Tryz.zeroValue217
  i24 := by kernel_rfl
  t25 := Tryz.underlying218
  a25 := Tryz.isAgg218
  z25 := Tryz.sizeOf218
  v25 := Tryz.zeroValue218
  i25 := by kernel_rfl
  t34 := Tryz.underlying291
  a34 := Tryz.isAgg291
  z34 := Tryz.sizeOf291
  v34 := Tryz.zeroValue291
  i34 := by kernel_rfl
  c34 := by kernel_rfl
  t36 := Tryz.underlying198
  a36 := Tryz.isAgg198
  z36 := Tryz.sizeOf198
  v36 := Tryz.zeroValue198
  i36 := by kernel_rfl
  t37 := Tryz.underlying230
  a37 := Tryz.isAgg230
  z37 := Tryz.sizeOf230
  v37 := Tryz.zeroValue230
  i37 := by kernel_rfl
  t39 := Tryz.underlying293
  a39 := Tryz.isAgg293
  z39 := Tryz.sizeOf293
  v39 := Tryz.zeroValue293
  i39 := by kernel_rfl
  t44 := Tryz.underlying314
  a44 := Tryz.isAgg314
  z44 := Tryz.sizeOf314
  v44 := Tryz.zeroValue314
  i44 := by kernel_rfl
  t47 := Tryz.underlying266
  a47 := Tryz.isAgg266
  z47 := Tryz.sizeOf266
  v47 := Tryz.zeroValue266
  i47 := by kernel_rfl
  t48 := Tryz.underlying323
  a48 := Tryz.isAgg323
  z48 := Tryz.sizeOf323
  v48 := Tryz.zeroValue323
  i48 := by kernel_rfl
  t50 := Tryz.underlying325
  a50 := Tryz.isAgg325
  z50 := Tryz.sizeOf325
  v50 := Tryz.zeroValue325
  i50 := by kernel_rfl
  t52 := Tryz.underlying279
  a52 := Tryz.isAgg279
  z52 := Tryz.sizeOf279
  v52 := Tryz.zeroValue279
  i52 := by kernel_rfl
  t55 := Tryz.underlying282
  a55 := Tryz.isAgg282
  z55 := Tryz.sizeOf282
  v55 := Tryz.zeroValue282
  i55 := by kernel_rfl
  t59 := Tryz.underlying307
  a59 := Tryz.isAgg307
  z59 := Tryz.sizeOf307
  v59 := Tryz.zeroValue307
  i59 := by kernel_rfl
  t60 := Tryz.underlying91
  a60 := Tryz.isAgg91
  z60 := Tryz.sizeOf91
  v60 := Tryz.zeroValue91
  i60 := by kernel_rfl
  t61 := Tryz.underlying308
  a61 := Tryz.isAgg308
  z61 := Tryz.sizeOf308
  t65 := Tryz.underlying328
  a65 := Tryz.isAgg328
  z65 := Tryz.sizeOf328
  v65 := Tryz.zeroValue328
  i65 := by kernel_rfl
  t66 := Tryz.underlying329
  a66 := Tryz.isAgg329
  z66 := Tryz.sizeOf329
  v66 := Tryz.zeroValue329
  i66 := by kernel_rfl
  t67 := Tryz.underlying236
  a67 := Tryz.isAgg236
  z67 := Tryz.sizeOf236
  v67 := Tryz.zeroValue236
  i67 := by kernel_rfl
  g0 := by kernel_rfl
  m0 := by kernel_rfl
  g1 := by kernel_rfl
  m1 := by kernel_rfl
  g2 := by kernel_rfl
  m2 := by kernel_rfl
  g3 := by kernel_rfl
  m3 := by kernel_rfl
  g4 := by kernel_rfl
  m4 := by kernel_rfl }
open Go.RowKit in
theorem Sh.strings_CutPrefix (s p : ByteArray) (w : World) :
    Calls Tryz.prog 127 #[.string s, .string p] w fun e w' => e = .returned (.tuple #[.string ⟨(Lib.trimPrefix s.data.toList p.data.toList).toArray⟩, .bool (Lib.hasPrefix s.data.toList p.data.toList)]) ∧ w' = w := Any.strings_CutPrefix Sh.lays103 s p w
open Go.RowKit Go.Lib in
theorem Sh.stringslite_Index_one (s : ByteArray) (c : UInt8) (w : World) :
    Calls Tryz.prog 234 #[.string s, .string ⟨#[c]⟩] w fun e w' => e = .returned (.int .i64 (Lib.indexByte s.data.toList c)) ∧ w' = w := Any.stringslite_Index_one Sh.lays219 s c w
open Go.RowKit in
theorem Sh.strconv_ParseUint_10_at32_ok (s : ByteArray) (hmax : s.size ≤ 9223372036854775806) (u : Nat) (h : Lib.parseUintB 32 s.data.toList = .ok u) (w : World) :
    Calls Tryz.prog 207 #[.string s, .int .i64 10, .int .i64 32] w fun e w' => e = .returned (.tuple #[.int .u64 u, .nilIface]) ∧ (w' = w ∨ w' = Lib.bytesWorld w 5 s) := Any.strconv_ParseUint_10_at32_ok Sh.laysPu14 s hmax u h w
open Go.RowKit in
theorem Sh.strings_Trim_set (s cutset : ByteArray) (w : World) (hs : s.size ≤ 9223372036854775807) (hcs : cutset.size < 4294967281) (hascii : ∀ (j : Nat) b, cutset.data.toList[j]? = some b → b.toNat < 128) :
    Calls Tryz.prog 206 #[.string s, .string cutset] w fun e w' => e = .returned (.string ⟨(Lib.trimS s.data.toList cutset.data.toList).toArray⟩) ∧ Below w.heap.size w w' := Any.strings_Trim_laid Sh.lays160 (by kernel_rfl) s cutset w hs hcs hascii
end Go.Proofs.YtemlaompalbgiaaGreatDoor
namespace Go.Proofs.YtemlaompalbgiaaGreatDoor
open Go Go.RowKit
theorem wd_single {x : Nat} (h0 : x ≠ 0) (hx : x < 4294967296) : wd x = [(x : Int)] := by
  rw [wd_pos x h0, Nat.mod_eq_of_lt hx, Nat.div_eq_of_lt hx, wd_zero]
theorem grow_nil (x : Nat) (w : World) (hx : x < 4294967296) :
    Calls Tryz.prog 208 #[.slice none 0 0, .int .u32 1000000000, .int .u32 (x : Int)] w fun e w' => ∃ A c, e = .returned (.slice A (wd x).length c) ∧ Own w' w.heap.size A c (wd x) ∧ Ext w w' := by
  go_enter Tryz.func208, Tryz.ntmps208
  go_wp2_with fail
  go_loopw [7, 14] (fun c i wr => c = .int .u64 (x : Int) ∧ i = .int .i64 0 ∧ wr = w) (fun _ _ _ => 0)
  case atStart => exact ⟨rfl, rfl, rfl⟩
  case round =>
    obtain ⟨rfl, rfl, rfl⟩ := hrel
    by_cases h0 : x = 0
    · subst h0
      go_wp2_with fail
      go_ret
      rw [wd_zero]
      exact ⟨none, 0, rfl, Own.nil _ _, Ext.refl _⟩
    · have hb : decide ((x : Int) > 0) = true := decide_eq_true (by omega)
      have hp : 0 < x := by omega
      have E := Lib.hid (wd_single h0 hx)
      have HR := Lib.hid (Own.lit wr #[.int .u32 (x : Int)] [(x : Int)] rfl (by simp)).rd
      go_wp2_with (at_builtin; refine wpList_app rfl _ _ rfl wr.heap.size none 0 [] 0 rfl rfl (Own.nil _ _) _ _ [(x : Int)] 1 rfl rfl HR.out (by omega) (by simp) ?_; intro A' c' w1 hO hg)
      have HO := Lib.hid hO
      have HX := Lib.hid (((Ext.refl wr).alloc (.cells #[.int .u32 (x : Int)] 91)).grownNone hg)
      clear hO hg
      go_wp2_with fail
      go_ret
      refine ⟨A', c', ?_, ?_, HX.out⟩
      · rw [E.out]; rfl
      · rw [E.out]; exact HO.out
def dig10 : ByteArray := ⟨#[48, 49, 50, 51, 52, 53, 54, 55, 56, 57]⟩
theorem nl_of {s : ByteArray} (h : 0 < s.size) : ¬ s.toList = [] := fun e => by
  have h : ([] : List UInt8).length = s.size := by rw [← e, Lib.toList_data]; rfl
  simp at h
  omega
theorem ext_all (s : ByteArray) (k : Nat) (h : s.size = k) : s.extract 0 k = s := by
  subst h
  exact ByteArray.extract_zero_size
theorem ext_none (s : ByteArray) (k : Nat) (h : s.size = k) : s.extract k s.size = ⟨#[]⟩ := by
  refine Go.WideShapes.bytes_inj ?_
  rw [Lib.extract_data, h, Nat.sub_self, List.take_zero]
theorem bw_ext {w w' : World} {s : ByteArray} (h : w' = w ∨ w' = Lib.bytesWorld w 5 s) : Ext w w' := by
  rcases h with rfl | rfl
  · exact Ext.refl _
  · exact Lib.bytesWorld_below _ _ _
theorem nparse_small (s : ByteArray) (n : Nat) (w : World) (h0 : 0 < s.size) (h9 : s.size ≤ 9) (ht : Lib.trimS s.data.toList dig10.data.toList = []) (hz : (s.get! 0).toNat ≠ 48 ∨ s.size = 1) (hp : Lib.parseUintB 32 s.data.toList = .ok n) :
    Calls Tryz.prog 128 #[.string s] w fun e w' => ∃ A c, e = .returned (.tuple #[.slice A (wd n).length c, .int .i64 0]) ∧ Own w' w.heap.size A c (wd n) ∧ Ext w w' := by
  have HT := Lib.hid ht
  have HP := Lib.hid hp
  have hn : n ≤ 4294967295 := Lib.parseUintB_le hp
  clear ht hp
  have hnb : (s.toList == ByteArray.toList ⟨#[]⟩) = false := by rw [ba_0]; exact decide_eq_false (by omega)
  have hnl : ¬ s.toList = [] := fun e => by
    have h : ([] : List UInt8).length = s.size := by rw [← e, Lib.toList_data]; rfl
    simp at h
    omega
  have hni : s.toList.isEmpty = false := by simpa using hnl
  go_enter Tryz.func128, Tryz.ntmps128
  go_wp2_with fail
  refine (Sh.strings_Trim_set s dig10 w (by omega) (by decide) (fun j b hb => (show ∀ b ∈ dig10.data.toList, b.toNat < 128 by decide) b (List.mem_of_getElem? hb))).mono ?_; rintro e w1 ⟨rfl, hx1⟩
  rw [HT.out]
  have HX1 := Lib.hid hx1
  clear hx1
  obtain ⟨c0, hc0, hc1⟩ : ∃ c0 : UInt8, s[0]? = some c0 ∧ s.get! 0 = c0 := by
    refine ⟨s.get! 0, ?_, rfl⟩
    rw [getElem?_pos s 0 h0]
    obtain ⟨d⟩ := s
    have hj' : 0 < d.size := h0
    show some d[0] = some d[0]!
    rw [getElem!_pos d 0 hj']
  have hgo : (¬ c0.toNat = 48) ∨ s.size ≤ 1 := by
    rw [hc1] at hz
    rcases hz with hz | hz
    · exact .inl hz
    · exact .inr (by omega)
  clear hz hc1
  have hge : s[0]'h0 = c0 := by
    rw [getElem?_pos s 0 h0] at hc0
    exact Option.some.inj hc0
  rcases hgo with hq | hq
  · have hqb : ¬ ((c0.toNat : Int) = 48) := by omega
    have hqc : (((c0.toNat : Int)) == 48) = false := beq_eq_false_iff_ne.2 hqb
    go_wp2_with fail
    clear hnb hnl hni hc0 hge
    go_loopg [0, 4] 1 (fun k t q wr => (k = 1 ∧ t = .string s ∧ q = .slice none 0 0 ∧ Hid (Ext w wr)) ∨ (k = 0 ∧ t = .string ⟨#[]⟩ ∧ ∃ A c, q = .slice A (wd n).length c ∧ Hid (Own wr w.heap.size A c (wd n)) ∧ Hid (Ext w wr)))
    case atStart => exact .inl ⟨rfl, rfl, rfl, HX1.out⟩
    case round =>
      clear HX1
      rcases hrel with ⟨hk, rfl, rfl, HX⟩ | ⟨hk, rfl, A, c, rfl, HO, HX⟩
      · have hnb : (s.toList == ByteArray.toList ⟨#[]⟩) = false := by rw [ba_0]; exact decide_eq_false (by omega)
        have hnl : ¬ s.toList = [] := nl_of h0
        have hni : s.toList.isEmpty = false := by simpa using hnl
        by_cases h99 : s.size = 9
        · have hex := Lib.hid (ext_all s 9 h99)
          have hex2 := Lib.hid (ext_none s 9 h99)
          have hm : s.size % 9 = 0 := by rw [h99]
          have h9' : 9 ≤ s.size := by omega
          clear h99
          go_wp2_with fail
          try rw [hex.out]
          refine (Sh.strconv_ParseUint_10_at32_ok s (by omega) n HP.out _).mono ?_; rintro e w2 ⟨rfl, hw⟩
          have HX2 := Lib.hid (HX.out.trans (bw_ext hw))
          clear hw
          go_wp2_with fail
          refine (grow_nil n _ (by omega)).mono ?_; rintro e w3 ⟨A, c, rfl, HO, hx⟩
          have HO3 := Lib.hid (HO.lower HX2.out.size)
          have HX3 := Lib.hid (HX2.out.trans hx)
          clear HO hx
          go_wp2_with fail
          go_roundg 0
          case measure => omega
          case rel => exact .inr ⟨rfl, by first | rfl | rw [hex2.out] | rw [hm, hex2.out], A, c, rfl, HO3.out, HX3.out⟩
        · have hex := Lib.hid (ext_all s s.size rfl)
          have hex2 := Lib.hid (ext_none s s.size rfl)
          have hm : s.size % 9 = s.size := Nat.mod_eq_of_lt (by omega)
          have hz0 : ((s.size : Int) == 0) = false := beq_eq_false_iff_ne.2 (by omega)
          go_wp2_with fail
          try rw [hex.out]
          refine (Sh.strconv_ParseUint_10_at32_ok s (by omega) n HP.out _).mono ?_; rintro e w2 ⟨rfl, hw⟩
          have HX2 := Lib.hid (HX.out.trans (bw_ext hw))
          clear hw
          go_wp2_with fail
          refine (grow_nil n _ (by omega)).mono ?_; rintro e w3 ⟨A, c, rfl, HO, hx⟩
          have HO3 := Lib.hid (HO.lower HX2.out.size)
          have HX3 := Lib.hid (HX2.out.trans hx)
          clear HO hx
          go_wp2_with fail
          go_roundg 0
          case measure => omega
          case rel => exact .inr ⟨rfl, by first | rfl | rw [hex2.out] | rw [hm, hex2.out], A, c, rfl, HO3.out, HX3.out⟩
      · go_wp2_with fail
        refine (told_ok A (wd n) c w.heap.size _ _ HO.out rfl (wf_wd n) n (val_wd n) (by have := wd_len_le n 1 (by show (n : Int) < 4294967296; omega); omega)).mono ?_; rintro e w3 ⟨rfl, HO2, rfl⟩
        go_wp2_with fail
        go_ret2
        exact ⟨A, c, rfl, HO2, HX.out⟩
  · by_cases hqz : c0.toNat = 48
    · have hqb : ((c0.toNat : Int) = 48) := by omega
      have hqc : (((c0.toNat : Int)) == 48) = true := beq_iff_eq.2 hqb
      go_wp2_with fail
      clear hnb hnl hni hc0 hge
      go_loopg [0, 4] 1 (fun k t q wr => (k = 1 ∧ t = .string s ∧ q = .slice none 0 0 ∧ Hid (Ext w wr)) ∨ (k = 0 ∧ t = .string ⟨#[]⟩ ∧ ∃ A c, q = .slice A (wd n).length c ∧ Hid (Own wr w.heap.size A c (wd n)) ∧ Hid (Ext w wr)))
      case atStart => exact .inl ⟨rfl, rfl, rfl, HX1.out⟩
      case round =>
        clear HX1
        rcases hrel with ⟨hk, rfl, rfl, HX⟩ | ⟨hk, rfl, A, c, rfl, HO, HX⟩
        · have hnb : (s.toList == ByteArray.toList ⟨#[]⟩) = false := by rw [ba_0]; exact decide_eq_false (by omega)
          have hnl : ¬ s.toList = [] := nl_of h0
          have hni : s.toList.isEmpty = false := by simpa using hnl
          by_cases h99 : s.size = 9
          · exact absurd h99 (by omega)
          · have hex := Lib.hid (ext_all s s.size rfl)
            have hex2 := Lib.hid (ext_none s s.size rfl)
            have hm : s.size % 9 = s.size := Nat.mod_eq_of_lt (by omega)
            have hz0 : ((s.size : Int) == 0) = false := beq_eq_false_iff_ne.2 (by omega)
            go_wp2_with fail
            try rw [hex.out]
            refine (Sh.strconv_ParseUint_10_at32_ok s (by omega) n HP.out _).mono ?_; rintro e w2 ⟨rfl, hw⟩
            have HX2 := Lib.hid (HX.out.trans (bw_ext hw))
            clear hw
            go_wp2_with fail
            refine (grow_nil n _ (by omega)).mono ?_; rintro e w3 ⟨A, c, rfl, HO, hx⟩
            have HO3 := Lib.hid (HO.lower HX2.out.size)
            have HX3 := Lib.hid (HX2.out.trans hx)
            clear HO hx
            go_wp2_with fail
            go_roundg 0
            case measure => omega
            case rel => exact .inr ⟨rfl, by first | rfl | rw [hex2.out] | rw [hm, hex2.out], A, c, rfl, HO3.out, HX3.out⟩
        · go_wp2_with fail
          refine (told_ok A (wd n) c w.heap.size _ _ HO.out rfl (wf_wd n) n (val_wd n) (by have := wd_len_le n 1 (by show (n : Int) < 4294967296; omega); omega)).mono ?_; rintro e w3 ⟨rfl, HO2, rfl⟩
          go_wp2_with fail
          go_ret2
          exact ⟨A, c, rfl, HO2, HX.out⟩
    · have hqb : ¬ ((c0.toNat : Int) = 48) := by omega
      have hqc : (((c0.toNat : Int)) == 48) = false := beq_eq_false_iff_ne.2 hqb
      go_wp2_with fail
      clear hnb hnl hni hc0 hge
      go_loopg [0, 4] 1 (fun k t q wr => (k = 1 ∧ t = .string s ∧ q = .slice none 0 0 ∧ Hid (Ext w wr)) ∨ (k = 0 ∧ t = .string ⟨#[]⟩ ∧ ∃ A c, q = .slice A (wd n).length c ∧ Hid (Own wr w.heap.size A c (wd n)) ∧ Hid (Ext w wr)))
      case atStart => exact .inl ⟨rfl, rfl, rfl, HX1.out⟩
      case round =>
        clear HX1
        rcases hrel with ⟨hk, rfl, rfl, HX⟩ | ⟨hk, rfl, A, c, rfl, HO, HX⟩
        · have hnb : (s.toList == ByteArray.toList ⟨#[]⟩) = false := by rw [ba_0]; exact decide_eq_false (by omega)
          have hnl : ¬ s.toList = [] := nl_of h0
          have hni : s.toList.isEmpty = false := by simpa using hnl
          by_cases h99 : s.size = 9
          · exact absurd h99 (by omega)
          · have hex := Lib.hid (ext_all s s.size rfl)
            have hex2 := Lib.hid (ext_none s s.size rfl)
            have hm : s.size % 9 = s.size := Nat.mod_eq_of_lt (by omega)
            have hz0 : ((s.size : Int) == 0) = false := beq_eq_false_iff_ne.2 (by omega)
            go_wp2_with fail
            try rw [hex.out]
            refine (Sh.strconv_ParseUint_10_at32_ok s (by omega) n HP.out _).mono ?_; rintro e w2 ⟨rfl, hw⟩
            have HX2 := Lib.hid (HX.out.trans (bw_ext hw))
            clear hw
            go_wp2_with fail
            refine (grow_nil n _ (by omega)).mono ?_; rintro e w3 ⟨A, c, rfl, HO, hx⟩
            have HO3 := Lib.hid (HO.lower HX2.out.size)
            have HX3 := Lib.hid (HX2.out.trans hx)
            clear HO hx
            go_wp2_with fail
            go_roundg 0
            case measure => omega
            case rel => exact .inr ⟨rfl, by first | rfl | rw [hex2.out] | rw [hm, hex2.out], A, c, rfl, HO3.out, HX3.out⟩
        · go_wp2_with fail
          refine (told_ok A (wd n) c w.heap.size _ _ HO.out rfl (wf_wd n) n (val_wd n) (by have := wd_len_le n 1 (by show (n : Int) < 4294967296; omega); omega)).mono ?_; rintro e w3 ⟨rfl, HO2, rfl⟩
          go_wp2_with fail
          go_ret2
          exact ⟨A, c, rfl, HO2, HX.out⟩
theorem rv_str {Z : Nat → Prop} {w : World} {x : ByteArray} {v : Value} (h : RV Z w .st x v) : v = .string x ∧ x.size ≤ maxI := by
  unfold RV at h
  rw [if_neg (by simp [Ty.agg]), RT] at h
  exact ⟨by simpa using h.1, h.2⟩
theorem rq_str {Z : Nat → Prop} {w : World} {base : Nat} {x : ByteArray} (h : x.size ≤ maxI) : RQ true Z w base .st x [.string x] [] := by
  refine ⟨?_, rfl⟩
  rw [RT]
  exact ⟨rfl, h⟩
theorem rq_bool {Z : Nat → Prop} {w : World} {base : Nat} {b : Bool} : RQ true Z w base .bo b [.bool b] [] := by
  refine ⟨?_, rfl⟩
  rw [RT]
def ixB (s p : ByteArray) : Int := Lib.indexByte s.data.toList (p.get! 0)
def sp_sIdx : Spec := { q := .un, ps := [.st, .st], rs := [.it .i64], fresh := true, pre := fun _ x => some (ByteArray.size x.2.1 = 1), post := fun _ x => ((), (ixB x.1 x.2.1, ())) }
theorem ib_rng : ∀ (l : List UInt8) (c : UInt8), Lib.indexByte l c = -1 ∨ (0 ≤ Lib.indexByte l c ∧ Lib.indexByte l c < l.length)
  | [], c => .inl rfl
  | b :: l, c => by
    have ih := ib_rng l c
    unfold Lib.indexByte
    by_cases h : (b == c) = true
    · rw [if_pos h]
      exact .inr ⟨by omega, by simp only [List.length_cons]; omega⟩
    · rw [if_neg h]
      by_cases k : (Lib.indexByte l c == -1) = true
      · rw [if_pos k]
        exact .inl rfl
      · rw [if_neg k]
        rcases ih with ih | ih
        · exact absurd (by rw [ih]; rfl) k
        · exact .inr ⟨by omega, by simp only [List.length_cons]; omega⟩
theorem ixB_rng (s p : ByteArray) : ixB s p = -1 ∨ (0 ≤ ixB s p ∧ ixB s p < s.size) := by
  have := ib_rng s.data.toList (p.get! 0)
  have e : s.data.toList.length = s.size := by simp
  rw [e] at this
  exact this
theorem one_byte {p : ByteArray} (h : p.size = 1) : p = ⟨#[p.get! 0]⟩ := by
  obtain ⟨⟨l⟩⟩ := p
  match l, h with
  | [c], _ => rfl
theorem fo_sIdx : FnOk Tryz.prog 234 sp_sIdx := by
  refine ⟨callFunc_enter Tryz.func234 (by kernel_rfl) rfl, fun Z w gv vs y x hZ hv hp _ _ => ?_⟩
  obtain ⟨s, p, u⟩ := x
  match vs, hv with
  | [v1, v2], ⟨h1, h2, _⟩ =>
    have hp : ByteArray.size p = 1 := hp
    obtain ⟨rfl, s1⟩ := rv_str h1
    obtain ⟨rfl, s2⟩ := rv_str h2
    have e := one_byte hp
    have := Sh.stringslite_Index_one s (p.get! 0) w
    rw [← e] at this
    refine this.mono fun e w' ⟨e1, e2⟩ => ?_
    subst e1 e2
    refine told_new (S := sp_sIdx) (r := (ixB s p, ())) (us := [_]) (bs := []) rfl rfl (.inl ⟨_, rfl, rfl⟩) hZ ⟨[], [], rfl, ⟨?_, rfl⟩, rfl⟩ List.nodup_nil (fun g hg => by simp at hg) (Ext.refl _)
    rw [RT]
    have r := ixB_rng s p
    have m : IntKind.i64.min = -9223372036854775808 := rfl
    have m' : IntKind.i64.max = 9223372036854775807 := rfl
    have m2 : s.size ≤ 9223372036854775807 := s1
    refine ⟨rfl, ?_, ?_⟩
    · show _ ≤ ixB s p
      omega
    · show ixB s p ≤ _
      omega
def cutP (s p : ByteArray) : ByteArray × Bool := (⟨(Lib.trimPrefix s.data.toList p.data.toList).toArray⟩, Lib.hasPrefix s.data.toList p.data.toList)
def sp_sCutP : Spec := { q := .un, ps := [.st, .st], rs := [.st, .bo], fresh := true, pre := fun _ _ => none, post := fun _ x => ((), ((cutP x.1 x.2.1).1, (cutP x.1 x.2.1).2, ())) }
theorem cutP_size (s p : ByteArray) : (cutP s p).1.size ≤ s.size := by
  have := Lib.trimPrefix_le s.data.toList p.data.toList
  show (Lib.trimPrefix s.data.toList p.data.toList).toArray.size ≤ s.data.size
  simpa using this
theorem fo_sCutP : FnOk Tryz.prog 127 sp_sCutP := by
  refine ⟨callFunc_enter Tryz.func127 (by kernel_rfl) rfl, fun Z w gv vs y x hZ hv hp _ _ => ?_⟩
  obtain ⟨s, p, u⟩ := x
  match vs, hv with
  | [v1, v2], ⟨h1, h2, _⟩ =>
    obtain ⟨rfl, s1⟩ := rv_str h1
    obtain ⟨rfl, s2⟩ := rv_str h2
    refine (Sh.strings_CutPrefix s p w).mono fun e w' ⟨e1, e2⟩ => ?_
    subst e1 e2
    exact told_new (S := sp_sCutP) (r := ((cutP s p).1, (cutP s p).2, ())) (us := [_, _]) (bs := []) rfl rfl (.inr ⟨by simp, rfl⟩) hZ ⟨[], [], rfl, rq_str (base := w'.heap.size) (Nat.le_trans (cutP_size s p) s1), [], [], rfl, rq_bool (base := w'.heap.size), rfl⟩ List.nodup_nil (fun g hg => by simp at hg) (Ext.refl _)
def pV (s : ByteArray) : Nat := match Lib.parseUintB 32 s.data.toList with
  | .ok n => n
  | _ => 0
def pOk (s : ByteArray) : Bool := decide (0 < s.size ∧ s.size ≤ 9) && decide (Lib.trimS s.data.toList dig10.data.toList = []) && (decide ((s.get! 0).toNat ≠ 48) || decide (s.size = 1)) && (match Lib.parseUintB 32 s.data.toList with
  | .ok _ => true
  | _ => false)
theorem pOk_of {s : ByteArray} (h : pOk s = true) : 0 < s.size ∧ s.size ≤ 9 ∧ Lib.trimS s.data.toList dig10.data.toList = [] ∧ ((s.get! 0).toNat ≠ 48 ∨ s.size = 1) ∧ Lib.parseUintB 32 s.data.toList = .ok (pV s) := by
  unfold pOk at h
  simp only [Bool.and_eq_true, Bool.or_eq_true, decide_eq_true_eq] at h
  obtain ⟨⟨⟨h1, h2⟩, h3⟩, h4⟩ := h
  refine ⟨h1.1, h1.2, h2, h3, ?_⟩
  unfold pV
  cases hc : Lib.parseUintB 32 s.data.toList
  case ok n => rfl
  all_goals (rw [hc] at h4; cases h4)
def sp_aParse : Spec := { q := .un, ps := [.st], rs := [tW32, .it .i64], fresh := true, pre := fun _ x => some (pOk x.1 = true), post := fun _ x => ((), (wd (pV x.1), 0, ())) }
theorem fo_aParse : FnOk Tryz.prog 128 sp_aParse := by
  refine ⟨callFunc_enter Tryz.func128 (by kernel_rfl) rfl, fun Z w gv vs y x hZ hv hp _ _ => ?_⟩
  obtain ⟨s, u⟩ := x
  match vs, hv with
  | [v1], ⟨h1, _⟩ =>
    obtain ⟨p1, p2, p3, p4, p5⟩ := pOk_of (show pOk s = true from hp)
    obtain ⟨rfl, s1⟩ := rv_str h1
    refine (nparse_small s (pV s) w p1 p2 p3 p4 p5).mono fun e w' ⟨A, c, e1, e2, e3⟩ => ?_
    subst e1
    exact told_WE (S := sp_aParse) rfl rfl rfl Er.zero e2 e3 hZ rfl
end Go.Proofs.YtemlaompalbgiaaGreatDoor
namespace Go.Proofs.YtemlaompalbgiaaGreatDoor
open Go
open Go.Shelf
def Sh.lays156_ren : Go.Shelf.Ren := ⟨fun | 156 => 191 | 165 => 246 | 166 => 222 | 169 => 224 | 240 => 275 | 241 => 300 | 276 => 326 | 277 => 343 | n => n, fun | 31 => 93 | 9 => 9 | 3 => 3 | 4 => 4 | 0 => 0 | 20 => 20 | 72 => 232 | 76 => 233 | 70 => 229 | 37 => 230 | 75 => 217 | 127 => 266 | 164 => 299 | 5 => 5 | 80 => 236 | n => n, fun | n => n⟩
theorem Sh.lays156 : Go.Proofs.Lays.n156 Tryz.prog Sh.lays156_ren := {
  mixed := by kernel_rfl
  f156 := Tryz.func191.trans (congrArg some (by kernel_rfl))
  f165 := Tryz.func246.trans (congrArg some (by kernel_rfl))
  f166 := Tryz.func222.trans (congrArg some (by kernel_rfl))
  f169 := Tryz.func224.trans (congrArg some (by kernel_rfl))
  f240 := Tryz.func275.trans (congrArg some (by kernel_rfl))
  f241 := Tryz.func300.trans (congrArg some (by kernel_rfl))
  f276 := Tryz.func326.trans (congrArg some (by kernel_rfl))
  f277 := Tryz.func343.trans (congrArg some (by kernel_rfl))
  t0 := Tryz.underlying0
  a0 := Tryz.isAgg0
  z0 := Tryz.sizeOf0
  v0 := Tryz.zeroValue0
  t3 := Tryz.underlying3
  a3 := Tryz.isAgg3
  z3 := Tryz.sizeOf3
  v3 := Tryz.zeroValue3
  t4 := Tryz.underlying4
  a4 := Tryz.isAgg4
  z4 := Tryz.sizeOf4
  v4 := Tryz.zeroValue4
  t9 := Tryz.underlying9
  a9 := Tryz.isAgg9
  z9 := Tryz.sizeOf9
  v9 := Tryz.zeroValue9
  t20 := Tryz.underlying20
  a20 := Tryz.isAgg20
  z20 := Tryz.sizeOf20
  v20 := Tryz.zeroValue20
  t31 := Tryz.underlying93
  a31 := Tryz.isAgg93
  z31 := Tryz.sizeOf93
  v31 := Tryz.zeroValue93
  t37 := Tryz.underlying230
  a37 := Tryz.isAgg230
  z37 := Tryz.sizeOf230
  v37 := Tryz.zeroValue230
  t70 := Tryz.underlying229
  a70 := Tryz.isAgg229
  z70 := Tryz.sizeOf229
  v70 := Tryz.zeroValue229
  t72 := Tryz.underlying232
  a72 := Tryz.isAgg232
  z72 := Tryz.sizeOf232
  v72 := Tryz.zeroValue232
  t75 := Tryz.underlying217
  a75 := Tryz.isAgg217
  z75 := Tryz.sizeOf217
  v75 := Tryz.zeroValue217
  t76 := Tryz.underlying233
  a76 := Tryz.isAgg233
  z76 := Tryz.sizeOf233
  v76 := Tryz.zeroValue233
  t127 := Tryz.underlying266
  a127 := Tryz.isAgg266
  z127 := Tryz.sizeOf266
  v127 := Tryz.zeroValue266
  t164 := Tryz.underlying299
  a164 := Tryz.isAgg299
  z164 := Tryz.sizeOf299
  v164 := Tryz.zeroValue299 }
theorem Sh.Builder_Extra_156 : Builder.Extra Tryz.prog Sh.lays156_ren := {
  sizeBuilder := by kernel_rfl
  liesBuilder := by kernel_rfl
  t5 := Tryz.underlying5
  a5 := Tryz.isAgg5
  z5 := Tryz.sizeOf5
  v5 := Tryz.zeroValue5
  infoByte := by kernel_rfl
  cellsByte := by kernel_rfl
  sizeByte := by kernel_rfl
  neB5 := by decide }
theorem Sh.strings_Join_none (a : Option Addr) (c : Nat) (sep : ByteArray) (w : World) :
    Calls Tryz.prog 191 #[.slice a 0 c, .string sep] w fun e w' => e = .returned (.string ⟨#[]⟩) ∧ w' = w := Any.strings_Join_none Sh.lays156 Sh.Builder_Extra_156 a c sep w
open Go.RowKit in
theorem Sh.strings_Join (bk o c : Nat) (xs : List ByteArray) (sep : ByteArray) (w : World) (hcells : ∀ (j : Nat) x, xs[j]? = some x → w.cell? ⟨bk, o + j, none⟩ = some (.string x)) (hbk : bk < w.heap.size) (hN : xs.length ≤ 140737488355328) (hcap : xs.length ≤ c) (hlen : (Lib.join (xs.map (·.data.toList)) sep.data.toList).length ≤ 140737488355328) :
    Calls Tryz.prog 191 #[.slice (some ⟨bk, o, none⟩) xs.length c, .string sep] w fun e w' => e = .returned (.string ⟨(Lib.join (xs.map (·.data.toList)) sep.data.toList).toArray⟩) ∧ Below w.heap.size w w' := Any.strings_Join Sh.lays156 Sh.Builder_Extra_156 bk o c xs sep w hcells hbk hN hcap hlen
def Sh.lays283_ren : Go.Shelf.Ren := ⟨fun | 283 => 303 | n => n, fun | 3 => 3 | 9 => 9 | 4 => 4 | n => n, fun | n => n⟩
theorem Sh.lays283 : Go.Proofs.Lays.n283 Tryz.prog Sh.lays283_ren := {
  mixed := by kernel_rfl
  f283 := Tryz.func303.trans (congrArg some (by kernel_rfl))
  t3 := Tryz.underlying3
  a3 := Tryz.isAgg3
  z3 := Tryz.sizeOf3
  v3 := Tryz.zeroValue3
  t4 := Tryz.underlying4
  a4 := Tryz.isAgg4
  z4 := Tryz.sizeOf4
  v4 := Tryz.zeroValue4
  t9 := Tryz.underlying9
  a9 := Tryz.isAgg9
  z9 := Tryz.sizeOf9
  v9 := Tryz.zeroValue9 }
open Go.Lib in
theorem Sh.internal_strconv_small (i : Nat) (h : i < 100) (w : World) :
    Calls Tryz.prog 303 #[.int .i64 i] w fun e w' => e = .returned (.string ⟨(Lib.decDigits i).toArray⟩) ∧ w' = w := Any.internal_strconv_small Sh.lays283 i h w
def Sh.laysM284_ren : Go.Shelf.Ren := ⟨fun | 284 => 304 | 129 => 346 | 317 => 345 | 318 => 347 | n => n, fun | 53 => 211 | 3 => 3 | 212 => 307 | 0 => 0 | 4 => 4 | 46 => 198 | 5 => 5 | 9 => 9 | n => n, fun | 17 => 1 | n => n⟩
theorem Sh.laysM284 : Go.Proofs.LaysM.n284 Tryz.prog Sh.laysM284_ren := {
  mixed := by kernel_rfl
  f129 := Tryz.func346.trans (congrArg some (by kernel_rfl))
  f284 := Tryz.func304.trans (congrArg some (by kernel_rfl))
  f317 := Tryz.func345.trans (congrArg some (by kernel_rfl))
  f318 := Tryz.func347.trans (congrArg some (by kernel_rfl))
  t0 := Tryz.underlying0
  a0 := Tryz.isAgg0
  z0 := Tryz.sizeOf0
  v0 := Tryz.zeroValue0
  t3 := Tryz.underlying3
  a3 := Tryz.isAgg3
  z3 := Tryz.sizeOf3
  v3 := Tryz.zeroValue3
  t4 := Tryz.underlying4
  a4 := Tryz.isAgg4
  z4 := Tryz.sizeOf4
  v4 := Tryz.zeroValue4
  t5 := Tryz.underlying5
  a5 := Tryz.isAgg5
  z5 := Tryz.sizeOf5
  v5 := Tryz.zeroValue5
  t9 := Tryz.underlying9
  a9 := Tryz.isAgg9
  z9 := Tryz.sizeOf9
  v9 := Tryz.zeroValue9
  t46 := Tryz.underlying198
  a46 := Tryz.isAgg198
  z46 := Tryz.sizeOf198
  v46 := Tryz.zeroValue198
  t53 := Tryz.underlying211
  a53 := Tryz.isAgg211
  z53 := Tryz.sizeOf211
  v53 := Tryz.zeroValue211
  t212 := Tryz.underlying307
  a212 := Tryz.isAgg307
  z212 := Tryz.sizeOf307
  v212 := Tryz.zeroValue307
  g17 := by kernel_rfl
  i0 := by kernel_rfl
  i3 := by kernel_rfl
  i4 := by kernel_rfl
  i5 := by kernel_rfl
  i9 := by kernel_rfl
  i46 := by kernel_rfl
  i53 := by kernel_rfl
  i212 := by kernel_rfl
  m17 := by kernel_rfl }
open Go.Lib in
theorem Sh.internal_strconv_numDigits (u : Nat) (h1 : 1 ≤ u) (h2 : u < 18446744073709551616) (w : World) (htab : Lib.TabIs Tryz.prog w "internal/strconv.uint64pow10" .u64 Lib.pow10Tab) :
    Calls Tryz.prog 304 #[.int .u64 u] w fun e w' => e = .returned (.int .i64 (Lib.nDigits u)) ∧ w' = w := Any.internal_strconv_numDigits Sh.laysM284 u h1 h2 w htab
def Sh.lays285_ren : Go.Shelf.Ren := ⟨fun | 285 => 305 | n => n, fun | 37 => 230 | 53 => 211 | 3 => 3 | 4 => 4 | 51 => 91 | 9 => 9 | 5 => 5 | 0 => 0 | n => n, fun | n => n⟩
theorem Sh.lays285 : Go.Proofs.Lays.n285 Tryz.prog Sh.lays285_ren := {
  mixed := by kernel_rfl
  f285 := Tryz.func305.trans (congrArg some (by kernel_rfl))
  t0 := Tryz.underlying0
  a0 := Tryz.isAgg0
  z0 := Tryz.sizeOf0
  v0 := Tryz.zeroValue0
  t3 := Tryz.underlying3
  a3 := Tryz.isAgg3
  z3 := Tryz.sizeOf3
  v3 := Tryz.zeroValue3
  t4 := Tryz.underlying4
  a4 := Tryz.isAgg4
  z4 := Tryz.sizeOf4
  v4 := Tryz.zeroValue4
  t5 := Tryz.underlying5
  a5 := Tryz.isAgg5
  z5 := Tryz.sizeOf5
  v5 := Tryz.zeroValue5
  t9 := Tryz.underlying9
  a9 := Tryz.isAgg9
  z9 := Tryz.sizeOf9
  v9 := Tryz.zeroValue9
  t37 := Tryz.underlying230
  a37 := Tryz.isAgg230
  z37 := Tryz.sizeOf230
  v37 := Tryz.zeroValue230
  t51 := Tryz.underlying91
  a51 := Tryz.isAgg91
  z51 := Tryz.sizeOf91
  v51 := Tryz.zeroValue91
  t53 := Tryz.underlying211
  a53 := Tryz.isAgg211
  z53 := Tryz.sizeOf211
  v53 := Tryz.zeroValue211 }
open Go.RowKit Go.Sort Go.Lib in
theorem Sh.internal_strconv_formatBase10 (blk off cap : Nat) (u : Nat) (d : Array UInt8) (w : World) (hH : Holds (fun (b : UInt8) => Value.int .u8 (b.toNat : Int)) w blk off d) (hu : u < 10 ^ d.size) (hu64 : u < 18446744073709551616) (hsz : d.size < 4611686018427387904) :
    Calls Tryz.prog 305 #[.slice (some ⟨blk, off, none⟩) d.size cap, .int .u64 u] w fun e w' =>
      e = .returned (.tuple #[]) ∧ ∃ (n v' : Nat) (dk : Array UInt8), w' = (putRow (fun (b : UInt8) => Value.int .u8 (b.toNat : Int)) w blk off dk).drewN n ∧ FmtInv d.size u 0 v' dk := Any.internal_strconv_formatBase10 Sh.lays285 blk off cap u d w hH hu hu64 hsz
open Go.RowKit Go.Sort Go.Lib in
def Sh.lays105_ren : Go.Shelf.Ren := ⟨fun | 105 => 199 | 212 => 251 | 99 => 252 | 165 => 246 | 166 => 222 | 170 => 223 | 169 => 224 | 263 => 307 | 264 => 308 | 206 => 254 | 240 => 275 | 241 => 300 | 276 => 326 | 277 => 343 | n => n, fun | 9 => 9 | 3 => 3 | 4 => 4 | 20 => 20 | 0 => 0 | 46 => 198 | 109 => 248 | 5 => 5 | 72 => 232 | 76 => 233 | 51 => 91 | 146 => 284 | 53 => 211 | 148 => 286 | 70 => 229 | 37 => 230 | 75 => 217 | 127 => 266 | 164 => 299 | 80 => 236 | n => n, fun | n => n⟩
theorem Sh.lays105 : Go.Proofs.Lays.n105 Tryz.prog Sh.lays105_ren := {
  mixed := by kernel_rfl
  f99 := Tryz.func252.trans (congrArg some (by kernel_rfl))
  f105 := Tryz.func199.trans (congrArg some (by kernel_rfl))
  f165 := Tryz.func246.trans (congrArg some (by kernel_rfl))
  f166 := Tryz.func222.trans (congrArg some (by kernel_rfl))
  f169 := Tryz.func224.trans (congrArg some (by kernel_rfl))
  f170 := Tryz.func223.trans (congrArg some (by kernel_rfl))
  f206 := Tryz.func254.trans (congrArg some (by kernel_rfl))
  f212 := Tryz.func251.trans (congrArg some (by kernel_rfl))
  f240 := Tryz.func275.trans (congrArg some (by kernel_rfl))
  f241 := Tryz.func300.trans (congrArg some (by kernel_rfl))
  f263 := Tryz.func307.trans (congrArg some (by kernel_rfl))
  f264 := Tryz.func308.trans (congrArg some (by kernel_rfl))
  f276 := Tryz.func326.trans (congrArg some (by kernel_rfl))
  f277 := Tryz.func343.trans (congrArg some (by kernel_rfl))
  t0 := Tryz.underlying0
  a0 := Tryz.isAgg0
  z0 := Tryz.sizeOf0
  v0 := Tryz.zeroValue0
  t3 := Tryz.underlying3
  a3 := Tryz.isAgg3
  z3 := Tryz.sizeOf3
  v3 := Tryz.zeroValue3
  t4 := Tryz.underlying4
  a4 := Tryz.isAgg4
  z4 := Tryz.sizeOf4
  v4 := Tryz.zeroValue4
  t5 := Tryz.underlying5
  a5 := Tryz.isAgg5
  z5 := Tryz.sizeOf5
  v5 := Tryz.zeroValue5
  t9 := Tryz.underlying9
  a9 := Tryz.isAgg9
  z9 := Tryz.sizeOf9
  v9 := Tryz.zeroValue9
  t20 := Tryz.underlying20
  a20 := Tryz.isAgg20
  z20 := Tryz.sizeOf20
  v20 := Tryz.zeroValue20
  t37 := Tryz.underlying230
  a37 := Tryz.isAgg230
  z37 := Tryz.sizeOf230
  v37 := Tryz.zeroValue230
  t46 := Tryz.underlying198
  a46 := Tryz.isAgg198
  z46 := Tryz.sizeOf198
  v46 := Tryz.zeroValue198
  t51 := Tryz.underlying91
  a51 := Tryz.isAgg91
  z51 := Tryz.sizeOf91
  v51 := Tryz.zeroValue91
  t53 := Tryz.underlying211
  a53 := Tryz.isAgg211
  z53 := Tryz.sizeOf211
  v53 := Tryz.zeroValue211
  t70 := Tryz.underlying229
  a70 := Tryz.isAgg229
  z70 := Tryz.sizeOf229
  v70 := Tryz.zeroValue229
  t72 := Tryz.underlying232
  a72 := Tryz.isAgg232
  z72 := Tryz.sizeOf232
  v72 := Tryz.zeroValue232
  t75 := Tryz.underlying217
  a75 := Tryz.isAgg217
  z75 := Tryz.sizeOf217
  v75 := Tryz.zeroValue217
  t76 := Tryz.underlying233
  a76 := Tryz.isAgg233
  z76 := Tryz.sizeOf233
  v76 := Tryz.zeroValue233
  t109 := Tryz.underlying248
  a109 := Tryz.isAgg248
  z109 := Tryz.sizeOf248
  v109 := Tryz.zeroValue248
  t127 := Tryz.underlying266
  a127 := Tryz.isAgg266
  z127 := Tryz.sizeOf266
  v127 := Tryz.zeroValue266
  t146 := Tryz.underlying284
  a146 := Tryz.isAgg284
  z146 := Tryz.sizeOf284
  v146 := Tryz.zeroValue284
  t148 := Tryz.underlying286
  a148 := Tryz.isAgg286
  z148 := Tryz.sizeOf286
  v148 := Tryz.zeroValue286
  t164 := Tryz.underlying299
  a164 := Tryz.isAgg299
  z164 := Tryz.sizeOf299
  v164 := Tryz.zeroValue299 }
theorem Sh.Builder_Extra_105 : Builder.Extra Tryz.prog Sh.lays105_ren := {
  sizeBuilder := by kernel_rfl
  liesBuilder := by kernel_rfl
  t5 := Tryz.underlying5
  a5 := Tryz.isAgg5
  z5 := Tryz.sizeOf5
  v5 := Tryz.zeroValue5
  infoByte := by kernel_rfl
  cellsByte := by kernel_rfl
  sizeByte := by kernel_rfl
  neB5 := by decide }
open Go.RowKit Go.Lib in
theorem Sh.strings_Repeat (s : ByteArray) (c : Nat) (w : World) (hc : c ≤ 9223372036854775807) (hlen : s.size * c ≤ 140737488355328) :
    Calls Tryz.prog 199 #[.string s, .int .i64 c] w fun e w' => e = .returned (.string ⟨(Lib.repeatL s.data.toList c).toArray⟩) ∧ Below w.heap.size w w' := Any.strings_Repeat Sh.lays105 Sh.Builder_Extra_105 s c w hc hlen
def Sh.laysNm217_ren : Go.Shelf.Ren := ⟨fun | 17 => 200 | n => n, fun | 24 => 93 | 9 => 9 | 3 => 3 | 4 => 4 | 0 => 0 | n => n, fun | n => n⟩
theorem Sh.laysNm217 : Go.Proofs.Lays2.n17 Tryz.prog Sh.laysNm217_ren := {
  mixed := by kernel_rfl
  f17 := Tryz.func200.trans (congrArg some (by kernel_rfl))
  t0 := Tryz.underlying0
  a0 := Tryz.isAgg0
  z0 := Tryz.sizeOf0
  v0 := Tryz.zeroValue0
  t3 := Tryz.underlying3
  a3 := Tryz.isAgg3
  z3 := Tryz.sizeOf3
  v3 := Tryz.zeroValue3
  t4 := Tryz.underlying4
  a4 := Tryz.isAgg4
  z4 := Tryz.sizeOf4
  v4 := Tryz.zeroValue4
  t9 := Tryz.underlying9
  a9 := Tryz.isAgg9
  z9 := Tryz.sizeOf9
  v9 := Tryz.zeroValue9
  t24 := Tryz.underlying93
  a24 := Tryz.isAgg93
  z24 := Tryz.sizeOf93
  v24 := Tryz.zeroValue93 }
open Go.RowKit Go.Lib Go.Sort in
theorem Sh.slices_Reverse_string_cells (b off n c : Nat) (Sx : Nat → ByteArray) (w : World) (hbig : n ≤ 9223372036854775807) (hc : ∀ i, i < n → w.cell? ⟨b, off + i, none⟩ = some (.string (Sx i))) (hf : ∀ j, j < n → w.frozen? ⟨b, off + j, none⟩ = false) :
    Calls Tryz.prog 200 #[.slice (some ⟨b, off, none⟩) n c] w fun e w' => e = .returned (.tuple #[]) ∧ ∃ q, w' = (w.drewN q).setCells b off ((Lib.strsOf Sx n).reverse.map encStr) := Any.slices_Reverse_string_cells Sh.laysNm217 b off n c Sx w hbig hc hf
end Go.Proofs.YtemlaompalbgiaaGreatDoor
namespace Go.Proofs.YtemlaompalbgiaaGreatDoor
open Go Go.RowKit Go.Sort Go.Lib
set_option maxHeartbeats 6400000 in
theorem fmtI_any (u : Nat) (hu64 : u < 18446744073709551616) (w : World) (htab : Lib.TabIs Tryz.prog w "internal/strconv.uint64pow10" .u64 Lib.pow10Tab) :
    Calls Tryz.prog 250 #[.int .u64 (u : Int), .int .i64 10] w fun e w' => e = .returned (.string ⟨(Lib.decDigits u).toArray⟩) ∧ Ext w w' := by
  by_cases hs : u < 100
  · have hb : decide ((u : Int) < 100) = true := decide_eq_true (by omega)
    go_enter Tryz.func250, Tryz.ntmps250
    go_wp2_with (go_at_call 303; refine (Sh.internal_strconv_small u hs _).mono ?_; rintro e w' ⟨rfl, rfl⟩)
    go_ret
    exact ⟨rfl, Ext.refl _⟩
  · have hb : decide ((u : Int) < 100) = false := decide_eq_false (by omega)
    have hu1 : 1 ≤ u := by omega
    have hnd20 : Lib.nDigits u ≤ 20 := by have := Lib.numDigits_eq u hu1 hu64; split at this <;> omega
    have hal : (Tryz.prog).arrayLen 279 = 24 := by simp [Program.arrayLen, Tryz.underlying279]
    have hsl : ∀ W, (Instr.sliceAt 279 (.pointer (some ⟨w.heap.size, 0, none⟩)) none (some (.int .i64 (Lib.nDigits u : Int))) none).run Tryz.prog W = .ok (.slice (some ⟨w.heap.size, 0, none⟩) (Lib.nDigits u) 24) W := fun W => by
      rw [run_sliceAt_array_h W 279 ⟨w.heap.size, 0, none⟩ (by simp [Program.arrayLen, Program.elem, Tryz.underlying279]) .i64 (Lib.nDigits u : Int) (by omega) (by rw [hal]; omega)]
      go_simp
    have hH0 := Lib.holds_zero0 w 279 (Lib.nDigits u) (by omega)
    have hfmt := Sh.internal_strconv_formatBase10 w.heap.size 0 24 u (Array.replicate (Lib.nDigits u) 0) (w.alloc (.cells Lib.zeros24 279)) hH0 (by rw [Array.size_replicate]; exact Lib.lt_pow_nDigits u) hu64 (by rw [Array.size_replicate]; omega)
    rw [Array.size_replicate] at hfmt
    have HH0 := Lib.hid hH0
    clear hH0 hal
    go_enter Tryz.func250, Tryz.ntmps250
    go_wp2_with (first
      | (go_at_call 304; refine (Sh.internal_strconv_numDigits u hu1 hu64 _ (Lib.tabIs_alloc htab _)).mono ?_; rintro e w' ⟨rfl, rfl⟩))
    go_at_call 305
    refine hfmt.mono ?_
    rintro e w' ⟨rfl, k, v', dk, rfl, hF⟩
    have hcv : (convert 230 9 (.slice (some ⟨w.heap.size, 0, none⟩) (Lib.nDigits u) 24)).run Tryz.prog ((putRow (fun (b : UInt8) => Value.int .u8 (b.toNat : Int)) (w.alloc (.cells Lib.zeros24 279)) w.heap.size 0 dk).drewN k) = .ok (.string ⟨(Lib.decDigits u).toArray⟩) ((putRow (fun (b : UInt8) => Value.int .u8 (b.toNat : Int)) (w.alloc (.cells Lib.zeros24 279)) w.heap.size 0 dk).drewN k) := by
      have h := run_convert_bytes_back (P := Tryz.prog) ((putRow (fun (b : UInt8) => Value.int .u8 (b.toNat : Int)) (w.alloc (.cells Lib.zeros24 279)) w.heap.size 0 dk).drewN k) 230 9 5 ⟨w.heap.size, 0, none⟩ 24 (Lib.decDigits u) Tryz.underlying230 Tryz.underlying5 Tryz.underlying9 (fun j hj => by
        rw [Lib.row_is_numeral hF j hj, Lib.add_plain, World.cell?_drewN]
        exact cell?_putRow (fun (b : UInt8) => Value.int .u8 (b.toNat : Int)) _ w.heap.size 0 _ dk HH0.out (by rw [hF.size, Array.size_replicate]) j (by rw [hF.size]; rw [Lib.decDigits_length] at hj; exact hj))
      rw [Lib.decDigits_length] at h
      exact h
    go_wp2_with fail
    go_ret
    obtain ⟨os, eo⟩ := Lib.fin_at w (.cells Lib.zeros24 279) dk k 0
    refine ⟨rfl, ?_⟩
    rw [eo]
    exact Lib.below_grow w.heap.size w (Nat.le_refl _) k os
theorem fmtU_any (u : Nat) (hu64 : u < 18446744073709551616) (w : World) (htab : Lib.TabIs Tryz.prog w "internal/strconv.uint64pow10" .u64 Lib.pow10Tab) :
    Calls Tryz.prog 198 #[.int .u64 (u : Int), .int .i64 10] w fun e w' => e = .returned (.string ⟨(Lib.decDigits u).toArray⟩) ∧ Ext w w' := by
  go_enter Tryz.func198, Tryz.ntmps198
  go_wp2_with fail
  refine (fmtI_any u hu64 w htab).mono ?_; rintro e w' ⟨rfl, hx⟩
  have HX := Lib.hid hx
  clear hx
  go_wp2_with fail
  go_ret
  exact ⟨rfl, HX.out⟩
end Go.Proofs.YtemlaompalbgiaaGreatDoor
namespace Go.Proofs.YtemlaompalbgiaaGreatDoor
open Go Go.RowKit
theorem wpList_app1 {w : World} {ops : Array Oper} {rest : List Oper} {o : Oper} {a : Act} {Q : Exit → Act → World → Prop} (hgd : o.guard = none) (s x : Operand)
    (ho : o.op = .call { callee := .builtin .append, args := #[s, x], argTypes := #[22, 22] })
    (base : Nat) (A : Option Addr) (c : Nat) (xs : List Int) (n : Nat) (hn : xs.length = n) (hs : a.eval s = .slice A n c) (hO : Own w base A c xs)
    (b : Addr) (y : Int) (hx : a.eval x = .slice (some b) 1 1) (hR : w.cell? b = some (.int .u32 y))
    (hlen : n + 1 ≤ 35184372088832) (hbase : base ≤ w.heap.size)
    (h : ∀ g c' w', Own w' base (some ⟨g, 0, none⟩) c' (xs ++ [y]) → w.grownBy w' (A.map (·.block)) → (A.map (·.block) = some g ∨ g = w.heap.size) → wpList Tryz.prog ops Q rest (a.put o.dst (.slice (some ⟨g, 0, none⟩) (n + 1) c')) w') : wpList Tryz.prog ops Q (o :: rest) a w := by
  obtain ⟨i0, hi, hz0, hz1, hz2⟩ := info_parts info_u32
  subst hn
  have hrow : (Value.slice A xs.length c).ownBlock = A.map (·.block) := by cases A <;> rfl
  refine wpList_append_lies w hgd s x 22 ho base 91 i0 (.int .u32 0) 1 4 Tryz.underlying22 hi hz0 hz1 hz2 rfl (by decide) _ _ _ hs hO b 1 1 (nums [y]) hx rfl
    (fun j u hu => by
      match j, hu with
      | 0, hu => cases hu; rw [show b.add 0 = b from rfl]; exact hR
      | j + 1, hu => simp [nums] at hu) (nums_one [y]) (by decide) (by unfold maxLen; omega) (by omega) hbase _ rfl ?_
  intro g cap w' hr hg hat _
  rw [hrow] at hg hat
  rw [← nums_append] at hr
  have hr' : w'.ownsRow base 91 1 (.slice (some ⟨g, 0, none⟩) (xs ++ [y]).length cap) (xs ++ [y]).length (nums (xs ++ [y])) := by rw [List.length_append]; exact hr
  exact h g cap w' hr' hg hat
theorem V_app (xs : List Int) (y : Int) : val (xs ++ [y]) = val xs + y * pw xs.length := by
  unfold val
  rw [List.length_append, List.length_singleton, V_succ, V_congr xs.length (fun j hj => nth_append_left xs [y] j hj)]
  congr 2
  have := nth_append_right xs [y] 0
  rw [Nat.add_zero] at this
  rw [this]
  rfl
theorem grow_round (us xs : List Int) (k : Nat) (cr D x : Int) (hk : k < us.length) (hn : nth us k = nth xs k) (hv : V us k + cr * pw k = V xs k * D + x) :
    V (us.set k ((cr + nth xs k * D) % 4294967296)) (k + 1) + (cr + nth xs k * D) / 4294967296 * pw (k + 1) = V xs (k + 1) * D + x := by
  rw [V_set _ _ _ hk _ (Nat.lt_succ_self k), V_succ, V_succ, pw_succ, hn]
  have e : (cr + nth xs k * D) % 4294967296 = cr + nth xs k * D - (cr + nth xs k * D) / 4294967296 * 4294967296 := by omega
  rw [e]
  generalize (cr + nth xs k * D) / 4294967296 = q
  generalize nth xs k = z at *
  simp only [Int.add_mul, Int.sub_mul, Int.mul_assoc] at hv ⊢
  rw [Int.mul_comm (pw k) D]
  omega
theorem mul_bd {z D : Int} (hz : 0 ≤ z ∧ z < 4294967296) (hD : 0 ≤ D ∧ D < 4294967296) : 0 ≤ z * D ∧ z * D ≤ 18446744065119617025 := by
  refine ⟨Int.mul_nonneg hz.1 hD.1, ?_⟩
  have h : z * D ≤ 4294967295 * 4294967295 := Int.mul_le_mul (by omega) (by omega) hD.1 (by omega)
  omega
theorem grow_end {us : List Int} {m n : Nat} (hl : us.length = (wd m).length) (hw : Wf us) (hmn : m ≤ n) (hv : val us = (n : Int)) : wd n = us := by
  have e : (val us).toNat = n := by omega
  have := wd_val hw (fun hne hz => ?_)
  · rw [e] at this
    exact this
  · have hp : 0 < us.length := List.length_pos_iff.2 hne
    have hm0 : m ≠ 0 := fun e0 => by
      rw [e0, wd_zero] at hl
      rw [hl] at hp
      exact absurd hp (by decide)
    have h1 := pw_le_wd m hm0
    have h2 := V_succ us (us.length - 1)
    rw [show us.length - 1 + 1 = us.length by omega, hz, Int.zero_mul, Int.add_zero] at h2
    have h3 := V_lt hw (us.length - 1)
    have h4 : val us = V us us.length := rfl
    rw [hl] at h2 h3 h4
    omega
theorem grow_more {us : List Int} {cr : Int} {n : Nat} (hw : Wf us) (hr0 : 0 ≤ cr) (hr1 : cr < 4294967296) (h0 : cr ≠ 0) (hv : val us + cr * pw us.length = (n : Int)) : wd n = us ++ [cr] := by
  have hv' : val (us ++ [cr]) = n := by rw [V_app, hv]
  have := wd_val (xs := us ++ [cr]) (wf_append hw (fun x hx => by rw [List.mem_singleton] at hx; rw [hx]; exact ⟨hr0, hr1⟩)) (fun _ => by
    rw [List.length_append, List.length_singleton, Nat.add_sub_cancel]
    have := nth_append_right us [cr] 0
    rw [Nat.add_zero] at this
    rw [this]
    exact h0)
  rw [hv'] at this
  simpa using this
set_option maxHeartbeats 2000000 in
theorem grow_any (A : Option Addr) (m : Nat) (D x : Nat) (c base : Nat) (w : World) (ho : Own w base A c (wd m)) (hbw : base ≤ w.heap.size) (hd1 : D < 4294967296) (hx1 : x < 4294967296) (hd0 : 1 ≤ D) (lm : (wd m).length ≤ 8192) :
    Calls Tryz.prog 208 #[.slice A (wd m).length c, .int .u32 D, .int .u32 x] w fun e w' => ∃ A' c', e = .returned (.slice A' (wd (m * D + x)).length c') ∧ Own w' base A' c' (wd (m * D + x)) ∧ (∀ a, A' = some a → A.map (·.block) = some a.block ∨ w.heap.size ≤ a.block) ∧ w.grownBy w' (A.map (·.block)) := by
  have HO := Lib.hid ho
  have HG := Lib.hid (World.grownBy.refl w (A.map (·.block)))
  have HF := Lib.hid ho.form
  have hc := ho.rd.capm
  have HW := Lib.hid (wf_wd m)
  clear ho
  go_enter Tryz.func208, Tryz.ntmps208
  go_wp2_with fail
  go_loopw [7, 14] (fun ca i wr => ∃ (k : Nat) (us : List Int) (cr : Int), k ≤ (wd m).length ∧ Hid (us.length = (wd m).length) ∧ Hid (Wf us) ∧ 0 ≤ cr ∧ cr < 4294967296 ∧ Hid (V us k + cr * pw k = V (wd m) k * D + x) ∧ Hid (∀ j, k ≤ j → nth us j = nth (wd m) j) ∧ ca = .int .u64 cr ∧ i = .int .i64 k ∧ Hid (Own wr base A c us) ∧ Hid (w.grownBy wr (A.map (·.block)))) (fun _ i _ => (((wd m).length : Int) - intOf i).toNat)
  case atStart => exact ⟨0, wd m, x, by omega, rfl, HW.out, by omega, by omega, by show (0 : Int) + (x : Int) * pw 0 = 0 * (D : Int) + (x : Int); rw [pw_zero]; omega, fun _ _ => rfl, rfl, rfl, HO, HG⟩
  case round =>
    clear HO HG
    obtain ⟨k, us, cr, hk, HUL, HW', hr0, hr1, HV, HR, rfl, rfl, HO, HX⟩ := hrel
    by_cases hkm : k < (wd m).length
    · obtain ⟨g, rfl⟩ : ∃ g, A = some ⟨g, 0, none⟩ := by
        rcases HF.out with h | ⟨g, h, _⟩
        · obtain ⟨a, ha⟩ := HO.out.rd.some_ (by have := HUL.out; omega)
          rw [h] at ha; cases ha
        · exact ⟨g, h⟩
      have hco := HO.out.cell k (by have := HUL.out; omega)
      have hfo := HO.out.free k
      have HV2 := Lib.hid (grow_round us (wd m) k cr D x (by have := HUL.out; omega) (HR.out k (Nat.le_refl _)) HV.out)
      rw [HR.out k (Nat.le_refl _)] at hco
      have bx := nth_wf (wf_wd m) k
      have pb := mul_bd (D := D) bx ⟨by omega, by omega⟩
      obtain ⟨z, hz⟩ : ∃ z, z = nth (wd m) k := ⟨_, rfl⟩
      rw [← hz] at hco bx pb HV2
      clear hz
      obtain ⟨pb0, pb1⟩ := pb
      go_wp2_with fail
      go_roundw
      case rel =>
        exact ⟨k + 1, _, _, by omega, by unfold Hid; rw [List.length_set]; exact HUL.out, wf_set HW'.out _ _ (by omega) (by omega), by omega, by omega, HV2.out, fun j hj => by rw [nth_set_ne _ _ _ _ (by omega)]; exact HR.out j (by omega), rfl, by go_num, (HO.out.set k _).1, grown_trans HX.out (HO.out.set k _).2⟩
      case measure => simp [intOf]; omega
    · obtain rfl : k = (wd m).length := by omega
      have hval : val us + cr * pw us.length = ((m * D + x : Nat) : Int) := by
        have := HV.out
        have e := val_wd m
        unfold val at e ⊢
        rw [HUL.out, this, e]
        omega
      have hmn : m ≤ m * D + x := Nat.le_trans (Nat.le_mul_of_pos_right m hd0) (Nat.le_add_right _ _)
      by_cases h0 : cr = 0
      · subst h0
        have HE := Lib.hid (grow_end HUL.out HW'.out hmn (show val us = ((m * D + x : Nat) : Int) by omega))
        go_wp2_with fail
        go_ret
        refine ⟨A, c, ?_, ?_, fun a ha => .inl (by rw [ha]; rfl), HX.out⟩
        · rw [HE.out, HUL.out]
          rfl
        · rw [HE.out]
          exact HO.out
      · have hb : decide (cr > 0) = true := decide_eq_true (by omega)
        have hp : 0 < cr := by omega
        have HE := Lib.hid (grow_more HW'.out hr0 hr1 h0 hval)
        have HL := Lib.hid HUL.out
        have HC := Lib.hid (show (wr.alloc (.cells #[.int .u32 cr] 91)).cell? ⟨wr.heap.size, 0, none⟩ = some (.int .u32 cr) by rw [World.cell?_alloc_new]; rfl)
        go_wp2_with (at_builtin; refine wpList_app1 rfl _ _ rfl base A c us _ HL.out rfl (HO.out.ext (Ext.alloc (Ext.refl _) _)) ⟨wr.heap.size, 0, none⟩ cr rfl HC.out (by omega) (by have := HX.out.size; simp only [World.size_alloc]; omega) ?_; intro g c' w4 h1 h2 h3)
        have H1 := Lib.hid h1
        have H2 := Lib.hid h2
        have H3 := Lib.hid h3
        clear h1 h2 h3
        go_wp2_with fail
        go_ret
        refine ⟨some ⟨g, 0, none⟩, c', ?_, ?_, fun a ha => ?_, ?_⟩
        · rw [HE.out, List.length_append, HUL.out]
          rfl
        · rw [HE.out]
          exact H1.out
        · cases ha
          rcases H3.out with h | h
          · exact .inl h
          · right
            have := HX.out.size
            rw [h]
            show w.heap.size ≤ (wr.alloc _).heap.size
            rw [World.size_alloc]
            omega
        · exact grown_trans (grown_alloc HX.out _) H2.out
end Go.Proofs.YtemlaompalbgiaaGreatDoor
