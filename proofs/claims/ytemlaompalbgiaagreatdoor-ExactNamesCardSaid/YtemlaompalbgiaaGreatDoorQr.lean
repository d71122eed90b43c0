/- Texts of this claim, joined: Sh2 H2 E6 E7 B20 B21 B22. -/
import Derived.Shelf.Small.Wraps
import Derived.Ground.MpProg
import Derived.Shelf.Pu.ParseUintPublic10
import Derived.Shelf.Strings.Search2
import Derived.Shelf.Strings.Trim
import Derived.Test.YtemlaompalbgiaaGreatDoorProg
import Derived.Shelf.Strings.SlTrimAscii
import Derived.Lib.AtoiErrMem
import Derived.WideShapes
import Derived.Test.YtemlaompalbgiaaGreatDoorQq
set_option linter.unusedVariables false
set_option linter.unusedSimpArgs false
set_option maxRecDepth 100000
namespace Go.Proofs.YtemlaompalbgiaaGreatDoor
open Go.Shelf
def Sh.lays103_ren : Go.Shelf.Ren := ⟨fun | 103 => 127 | 210 => 205 | 206 => 254 | n => n, fun | 9 => 9 | 4 => 4 | 24 => 153 | 3 => 3 | n => n, fun | n => n⟩
theorem Sh.lays103 : Go.Proofs.Lays.n103 Tryz.prog Sh.lays103_ren := {
  mixed := by kernel_rfl
  f103 := Tryz.func127.trans (congrArg some (by kernel_rfl))
  f206 := Tryz.func254.trans (congrArg some (by kernel_rfl))
  f210 := Tryz.func205.trans (congrArg some (by kernel_rfl))
  t3 := Tryz.underlying3
  a3 := Tryz.isAgg3
  z3 := Tryz.sizeOf3
  v3 := Tryz.zeroValue3
  t4 := Tryz.underlying4
  a4 := Tryz.isAgg4
  z4 := Tryz.sizeOf4
  v4 := Tryz.zeroValue4
  t9 := Tryz.underlying9
  a9 := Tryz.isAgg9
  z9 := Tryz.sizeOf9
  v9 := Tryz.zeroValue9
  t24 := Tryz.underlying153
  a24 := Tryz.isAgg153
  z24 := Tryz.sizeOf153
  v24 := Tryz.zeroValue153 }
def Sh.lays160_ren : Go.Shelf.Ren := ⟨fun | 160 => 206 | 232 => 256 | 231 => 255 | 227 => 257 | 234 => 259 | 233 => 258 | 236 => 261 | 235 => 260 | 228 => 309 | 271 => 312 | 151 => 311 | 197 => 310 | 120 => 352 | 152 => 351 | 260 => 350 | 137 => 363 | 119 => 364 | 224 => 287 | 225 => 286 | 217 => 285 | 266 => 333 | n => n, fun | 9 => 9 | 4 => 4 | 3 => 3 | 5 => 5 | 117 => 254 | 116 => 253 | 0 => 0 | 124 => 257 | 21 => 21 | 105 => 288 | 46 => 198 | 119 => 318 | 139 => 321 | 138 => 320 | n => n, fun | 3 => 4 | 4 => 5 | n => n⟩
theorem Sh.lays160 : Go.Proofs.Lays.n160 Tryz.prog Sh.lays160_ren := {
  mixed := by kernel_rfl
  f119 := Tryz.func364.trans (congrArg some (by kernel_rfl))
  f120 := Tryz.func352.trans (congrArg some (by kernel_rfl))
  f137 := Tryz.func363.trans (congrArg some (by kernel_rfl))
  f151 := Tryz.func311.trans (congrArg some (by kernel_rfl))
  f152 := Tryz.func351.trans (congrArg some (by kernel_rfl))
  f160 := Tryz.func206.trans (congrArg some (by kernel_rfl))
  f197 := Tryz.func310.trans (congrArg some (by kernel_rfl))
  f217 := Tryz.func285.trans (congrArg some (by kernel_rfl))
  f224 := Tryz.func287.trans (congrArg some (by kernel_rfl))
  f225 := Tryz.func286.trans (congrArg some (by kernel_rfl))
  f227 := Tryz.func257.trans (congrArg some (by kernel_rfl))
  f228 := Tryz.func309.trans (congrArg some (by kernel_rfl))
  f231 := Tryz.func255.trans (congrArg some (by kernel_rfl))
  f232 := Tryz.func256.trans (congrArg some (by kernel_rfl))
  f233 := Tryz.func258.trans (congrArg some (by kernel_rfl))
  f234 := Tryz.func259.trans (congrArg some (by kernel_rfl))
  f235 := Tryz.func260.trans (congrArg some (by kernel_rfl))
  f236 := Tryz.func261.trans (congrArg some (by kernel_rfl))
  f260 := Tryz.func350.trans (congrArg some (by kernel_rfl))
  f266 := Tryz.func333.trans (congrArg some (by kernel_rfl))
  f271 := Tryz.func312.trans (congrArg some (by kernel_rfl))
  t0 := Tryz.underlying0
  a0 := Tryz.isAgg0
  z0 := Tryz.sizeOf0
  v0 := Tryz.zeroValue0
  t3 := Tryz.underlying3
  a3 := Tryz.isAgg3
  z3 := Tryz.sizeOf3
  v3 := Tryz.zeroValue3
  t4 := Tryz.underlying4
  a4 := Tryz.isAgg4
  z4 := Tryz.sizeOf4
  v4 := Tryz.zeroValue4
  t5 := Tryz.underlying5
  a5 := Tryz.isAgg5
  z5 := Tryz.sizeOf5
  v5 := Tryz.zeroValue5
  t9 := Tryz.underlying9
  a9 := Tryz.isAgg9
  z9 := Tryz.sizeOf9
  v9 := Tryz.zeroValue9
  t21 := Tryz.underlying21
  a21 := Tryz.isAgg21
  z21 := Tryz.sizeOf21
  v21 := Tryz.zeroValue21
  t46 := Tryz.underlying198
  a46 := Tryz.isAgg198
  z46 := Tryz.sizeOf198
  v46 := Tryz.zeroValue198
  t105 := Tryz.underlying288
  a105 := Tryz.isAgg288
  z105 := Tryz.sizeOf288
  v105 := Tryz.zeroValue288
  t116 := Tryz.underlying253
  a116 := Tryz.isAgg253
  z116 := Tryz.sizeOf253
  t117 := Tryz.underlying254
  a117 := Tryz.isAgg254
  z117 := Tryz.sizeOf254
  v117 := Tryz.zeroValue254
  t119 := Tryz.underlying318
  a119 := Tryz.isAgg318
  z119 := Tryz.sizeOf318
  t124 := Tryz.underlying257
  a124 := Tryz.isAgg257
  z124 := Tryz.sizeOf257
  v124 := Tryz.zeroValue257
  t138 := Tryz.underlying320
  a138 := Tryz.isAgg320
  z138 := Tryz.sizeOf320
  v138 := Tryz.zeroValue320
  t139 := Tryz.underlying321
  a139 := Tryz.isAgg321
  z139 := Tryz.sizeOf321
  v139 := Tryz.zeroValue321
  g3 := by kernel_rfl
  g4 := by kernel_rfl }
def Sh.lays219_ren : Go.Shelf.Ren := ⟨fun | 219 => 234 | 217 => 285 | 225 => 286 | 224 => 287 | 267 => 288 | 266 => 333 | 314 => 334 | n => n, fun | 9 => 9 | 3 => 3 | 4 => 4 | 5 => 5 | 46 => 198 | 146 => 284 | 51 => 91 | n => n, fun | 1 => 0 | n => n⟩
theorem Sh.lays219 : Go.Proofs.Lays.n219 Tryz.prog Sh.lays219_ren := {
  mixed := by kernel_rfl
  f217 := Tryz.func285.trans (congrArg some (by kernel_rfl))
  f219 := Tryz.func234.trans (congrArg some (by kernel_rfl))
  f224 := Tryz.func287.trans (congrArg some (by kernel_rfl))
  f225 := Tryz.func286.trans (congrArg some (by kernel_rfl))
  f266 := Tryz.func333.trans (congrArg some (by kernel_rfl))
  f267 := Tryz.func288.trans (congrArg some (by kernel_rfl))
  f314 := Tryz.func334.trans (congrArg some (by kernel_rfl))
  t3 := Tryz.underlying3
  a3 := Tryz.isAgg3
  z3 := Tryz.sizeOf3
  v3 := Tryz.zeroValue3
  t4 := Tryz.underlying4
  a4 := Tryz.isAgg4
  z4 := Tryz.sizeOf4
  v4 := Tryz.zeroValue4
  t5 := Tryz.underlying5
  a5 := Tryz.isAgg5
  z5 := Tryz.sizeOf5
  v5 := Tryz.zeroValue5
  t9 := Tryz.underlying9
  a9 := Tryz.isAgg9
  z9 := Tryz.sizeOf9
  v9 := Tryz.zeroValue9
  t46 := Tryz.underlying198
  a46 := Tryz.isAgg198
  z46 := Tryz.sizeOf198
  v46 := Tryz.zeroValue198
  t51 := Tryz.underlying91
  a51 := Tryz.isAgg91
  z51 := Tryz.sizeOf91
  v51 := Tryz.zeroValue91
  t146 := Tryz.underlying284
  a146 := Tryz.isAgg284
  z146 := Tryz.sizeOf284
  v146 := Tryz.zeroValue284
  g1 := by kernel_rfl }
def Sh.laysPu14_ren : Go.Shelf.Ren := ⟨fun | 14 => 207 | 16 => 262 | 17 => 263 | 19 => 313 | 20 => 314 | 21 => 315 | 22 => 316 | 23 => 317 | 24 => 318 | 25 => 353 | 27 => 192 | 26 => 354 | 28 => 247 | 29 => 301 | 30 => 303 | 31 => 304 | 32 => 305 | 33 => 306 | 35 => 346 | 34 => 345 | 36 => 347 | 37 => 348 | 38 => 349 | 39 => 361 | 40 => 362 | n => n, fun | 9 => 9 | 3 => 3 | 22 => 211 | 24 => 217 | 25 => 218 | 4 => 4 | 34 => 291 | 5 => 5 | 36 => 198 | 37 => 230 | 0 => 0 | 39 => 293 | 21 => 21 | 44 => 314 | 47 => 266 | 50 => 325 | 48 => 323 | 2 => 2 | 52 => 279 | 55 => 282 | 59 => 307 | 60 => 91 | 20 => 20 | 61 => 308 | 65 => 328 | 66 => 329 | 67 => 236 | n => n, fun | 0 => 2 | 1 => 3 | 2 => 1 | 3 => 6 | 4 => 7 | n => n⟩
theorem Sh.laysPu14 : Go.Proofs.LaysPu.n14 Tryz.prog Sh.laysPu14_ren := {
  mixed := by kernel_rfl
  f14 := Tryz.func207.trans (congrArg some (by kernel_rfl))
  f16 := Tryz.func262.trans (congrArg some (by kernel_rfl))
  f17 := Tryz.func263.trans (congrArg some (by kernel_rfl))
  f19 := Tryz.func313.trans (congrArg some (by kernel_rfl))
  f20 := Tryz.func314.trans (congrArg some (by kernel_rfl))
  f21 := Tryz.func315.trans (congrArg some (by kernel_rfl))
  f22 := Tryz.func316.trans (congrArg some (by kernel_rfl))
  f23 := Tryz.func317.trans (congrArg some (by kernel_rfl))
  f24 := Tryz.func318.trans (congrArg some (by kernel_rfl))
  f25 := Tryz.func353.trans (congrArg some (by kernel_rfl))
  f26 := Tryz.func354.trans (congrArg some (by kernel_rfl))
  f27 := Tryz.func192.trans (congrArg some (by kernel_rfl))
  f28 := Tryz.func247.trans (congrArg some (by kernel_rfl))
  f29 := Tryz.func301.trans (congrArg some (by kernel_rfl))
  f30 := Tryz.func303.trans (congrArg some (by kernel_rfl))
  f31 := Tryz.func304.trans (congrArg some (by kernel_rfl))
  f32 := Tryz.func305.trans (congrArg some (by kernel_rfl))
  f33 := Tryz.func306.trans (congrArg some (by kernel_rfl))
  f34 := Tryz.func345.trans (congrArg some (by kernel_rfl))
  f35 := Tryz.func346.trans (congrArg some (by kernel_rfl))
  f36 := Tryz.func347.trans (congrArg some (by kernel_rfl))
  f37 := Tryz.func348.trans (congrArg some (by kernel_rfl))
  f38 := Tryz.func349.trans (congrArg some (by kernel_rfl))
  f39 := Tryz.func361.trans (congrArg some (by kernel_rfl))
  f40 := Tryz.func362.trans (congrArg some (by kernel_rfl))
  t0 := Tryz.underlying0
  a0 := Tryz.isAgg0
  z0 := Tryz.sizeOf0
  v0 := Tryz.zeroValue0
  i0 := by kernel_rfl
  t2 := Tryz.underlying2
  a2 := Tryz.isAgg2
  z2 := Tryz.sizeOf2
  v2 := Tryz.zeroValue2
  i2 := by kernel_rfl
  t3 := Tryz.underlying3
  a3 := Tryz.isAgg3
  z3 := Tryz.sizeOf3
  v3 := Tryz.zeroValue3
  i3 := by kernel_rfl
  t4 := Tryz.underlying4
  a4 := Tryz.isAgg4
  z4 := Tryz.sizeOf4
  v4 := Tryz.zeroValue4
  i4 := by kernel_rfl
  t5 := Tryz.underlying5
  a5 := Tryz.isAgg5
  z5 := Tryz.sizeOf5
  v5 := Tryz.zeroValue5
  i5 := by kernel_rfl
  t9 := Tryz.underlying9
  a9 := Tryz.isAgg9
  z9 := Tryz.sizeOf9
  v9 := Tryz.zeroValue9
  i9 := by kernel_rfl
  t20 := Tryz.underlying20
  a20 := Tryz.isAgg20
  z20 := Tryz.sizeOf20
  v20 := Tryz.zeroValue20
  i20 := by kernel_rfl
  t21 := Tryz.underlying21
  a21 := Tryz.isAgg21
  z21 := Tryz.sizeOf21
  v21 := Tryz.zeroValue21
  i21 := by kernel_rfl
  t22 := Tryz.underlying211
  a22 := Tryz.isAgg211
  z22 := Tryz.sizeOf211
  v22 := Tryz.zeroValue211
  i22 := by kernel_rfl
  t24 := Tryz.underlying217
  a24 := Tryz.isAgg217
  z24 := Tryz.sizeOf217
  v24 := Tryz.zeroValue217
  i24 := by kernel_rfl
  t25 := Tryz.underlying218
  a25 := Tryz.isAgg218
  z25 := Tryz.sizeOf218
  v25 := Tryz.zeroValue218
  i25 := by kernel_rfl
  t34 := Tryz.underlying291
  a34 := Tryz.isAgg291
  z34 := Tryz.sizeOf291
  v34 := Tryz.zeroValue291
  i34 := by kernel_rfl
  c34 := by kernel_rfl
  t36 := Tryz.underlying198
  a36 := Tryz.isAgg198
  z36 := Tryz.sizeOf198
  v36 := Tryz.zeroValue198
  i36 := by kernel_rfl
  t37 := Tryz.underlying230
  a37 := Tryz.isAgg230
  z37 := Tryz.sizeOf230
  v37 := Tryz.zeroValue230
  i37 := by kernel_rfl
  t39 := Tryz.underlying293
  a39 := Tryz.isAgg293
  z39 := Tryz.sizeOf293
  v39 := Tryz.zeroValue293
  i39 := by kernel_rfl
  t44 := Tryz.underlying314
  a44 := Tryz.isAgg314
  z44 := Tryz.sizeOf314
  v44 := Tryz.zeroValue314
  i44 := by kernel_rfl
  t47 := Tryz.underlying266
  a47 := Tryz.isAgg266
  z47 := Tryz.sizeOf266
  v47 := Tryz.zeroValue266
  i47 := by kernel_rfl
  t48 := Tryz.underlying323
  a48 := Tryz.isAgg323
  z48 := Tryz.sizeOf323
  v48 := Tryz.zeroValue323
  i48 := by kernel_rfl
  t50 := Tryz.underlying325
  a50 := Tryz.isAgg325
  z50 := Tryz.sizeOf325
  v50 := Tryz.zeroValue325
  i50 := by kernel_rfl
  t52 := Tryz.underlying279
  a52 := Tryz.isAgg279
  z52 := Tryz.sizeOf279
  v52 := Tryz.zeroValue279
  i52 := by kernel_rfl
  t55 := Tryz.underlying282
  a55 := Tryz.isAgg282
  z55 := Tryz.sizeOf282
  v55 := Tryz.zeroValue282
  i55 := by kernel_rfl
  t59 := Tryz.underlying307
  a59 := Tryz.isAgg307
  z59 := Tryz.sizeOf307
  v59 := Tryz.zeroValue307
  i59 := by kernel_rfl
  t60 := Tryz.underlying91
  a60 := Tryz.isAgg91
  z60 := Tryz.sizeOf91
  v60 := Tryz.zeroValue91
  i60 := by kernel_rfl
  t61 := Tryz.underlying308
  a61 := Tryz.isAgg308
  z61 := Tryz.sizeOf308
  t65 := Tryz.underlying328
  a65 := Tryz.isAgg328
  z65 := Tryz.sizeOf328
  v65 := Tryz.zeroValue328
  i65 := by kernel_rfl
  t66 := Tryz.underlying329
  a66 := Tryz.isAgg329
  z66 := Tryz.sizeOf329
  v66 := Tryz.zeroValue329
  i66 := by kernel_rfl
  t67 := Tryz.underlying236
  a67 := Tryz.isAgg236
  z67 := Tryz.sizeOf236
  v67 := Tryz.zeroValue236
  i67 := by kernel_rfl
  g0 := by kernel_rfl
  m0 := by kernel_rfl
  g1 := by kernel_rfl
  m1 := by kernel_rfl
  g2 := by kernel_rfl
  m2 := by kernel_rfl
  g3 := by kernel_rfl
  m3 := by kernel_rfl
  g4 := by kernel_rfl
  m4 := by kernel_rfl }
open Go.RowKit in
theorem Sh.strings_CutPrefix (s p : ByteArray) (w : World) :
    Calls Tryz.prog 127 #[.string s, .string p] w fun e w' => e = .returned (.tuple #[.string ⟨(Lib.trimPrefix s.data.toList p.data.toList).toArray⟩, .bool (Lib.hasPrefix s.data.toList p.data.toList)]) ∧ w' = w := Any.strings_CutPrefix Sh.lays103 s p w
open Go.RowKit Go.Lib in
theorem Sh.stringslite_Index_one (s : ByteArray) (c : UInt8) (w : World) :
    Calls Tryz.prog 234 #[.string s, .string ⟨#[c]⟩] w fun e w' => e = .returned (.int .i64 (Lib.indexByte s.data.toList c)) ∧ w' = w := Any.stringslite_Index_one Sh.lays219 s c w
open Go.RowKit in
theorem Sh.strconv_ParseUint_10_at32_ok (s : ByteArray) (hmax : s.size ≤ 9223372036854775806) (u : Nat) (h : Lib.parseUintB 32 s.data.toList = .ok u) (w : World) :
    Calls Tryz.prog 207 #[.string s, .int .i64 10, .int .i64 32] w fun e w' => e = .returned (.tuple #[.int .u64 u, .nilIface]) ∧ (w' = w ∨ w' = Lib.bytesWorld w 5 s) := Any.strconv_ParseUint_10_at32_ok Sh.laysPu14 s hmax u h w
open Go.RowKit in
theorem Sh.strings_Trim_set (s cutset : ByteArray) (w : World) (hs : s.size ≤ 9223372036854775807) (hcs : cutset.size < 4294967281) (hascii : ∀ (j : Nat) b, cutset.data.toList[j]? = some b → b.toNat < 128) :
    Calls Tryz.prog 206 #[.string s, .string cutset] w fun e w' => e = .returned (.string ⟨(Lib.trimS s.data.toList cutset.data.toList).toArray⟩) ∧ Below w.heap.size w w' := Any.strings_Trim_laid Sh.lays160 (by kernel_rfl) s cutset w hs hcs hascii
end Go.Proofs.YtemlaompalbgiaaGreatDoor
namespace Go.Proofs.YtemlaompalbgiaaGreatDoor
open Go Go.RowKit
theorem wd_single {x : Nat} (h0 : x ≠ 0) (hx : x < 4294967296) : wd x = [(x : Int)] := by
  rw [wd_pos x h0, Nat.mod_eq_of_lt hx, Nat.div_eq_of_lt hx, wd_zero]
theorem grow_nil (x : Nat) (w : World) (hx : x < 4294967296) :
    Calls Tryz.prog 208 #[.slice none 0 0, .int .u32 1000000000, .int .u32 (x : Int)] w fun e w' => ∃ A c, e = .returned (.slice A (wd x).length c) ∧ Own w' w.heap.size A c (wd x) ∧ Ext w w' := by
  go_enter Tryz.func208, Tryz.ntmps208
  go_wp2_with fail
  go_loopw [7, 14] (fun c i wr => c = .int .u64 (x : Int) ∧ i = .int .i64 0 ∧ wr = w) (fun _ _ _ => 0)
  case atStart => exact ⟨rfl, rfl, rfl⟩
  case round =>
    obtain ⟨rfl, rfl, rfl⟩ := hrel
    by_cases h0 : x = 0
    · subst h0
      go_wp2_with fail
      go_ret
      rw [wd_zero]
      exact ⟨none, 0, rfl, Own.nil _ _, Ext.refl _⟩
    · have hb : decide ((x : Int) > 0) = true := decide_eq_true (by omega)
      have hp : 0 < x := by omega
      have E := Lib.hid (wd_single h0 hx)
      have HR := Lib.hid (Own.lit wr #[.int .u32 (x : Int)] [(x : Int)] rfl (by simp)).rd
      go_wp2_with (at_builtin; refine wpList_app rfl _ _ rfl wr.heap.size none 0 [] 0 rfl rfl (Own.nil _ _) _ _ [(x : Int)] 1 rfl rfl HR.out (by omega) (by simp) ?_; intro A' c' w1 hO hg)
      have HO := Lib.hid hO
      have HX := Lib.hid (((Ext.refl wr).alloc (.cells #[.int .u32 (x : Int)] 91)).grownNone hg)
      clear hO hg
      go_wp2_with fail
      go_ret
      refine ⟨A', c', ?_, ?_, HX.out⟩
      · rw [E.out]; rfl
      · rw [E.out]; exact HO.out
def dig10 : ByteArray := ⟨#[48, 49, 50, 51, 52, 53, 54, 55, 56, 57]⟩
theorem nl_of {s : ByteArray} (h : 0 < s.size) : ¬ s.toList = [] := fun e => by
  have h : ([] : List UInt8).length = s.size := by rw [← e, Lib.toList_data]; rfl
  simp at h
  omega
theorem ext_all (s : ByteArray) (k : Nat) (h : s.size = k) : s.extract 0 k = s := by
  subst h
  exact ByteArray.extract_zero_size
theorem ext_none (s : ByteArray) (k : Nat) (h : s.size = k) : s.extract k s.size = ⟨#[]⟩ := by
  refine Go.WideShapes.bytes_inj ?_
  rw [Lib.extract_data, h, Nat.sub_self, List.take_zero]
theorem bw_ext {w w' : World} {s : ByteArray} (h : w' = w ∨ w' = Lib.bytesWorld w 5 s) : Ext w w' := by
  rcases h with rfl | rfl
  · exact Ext.refl _
  · exact Lib.bytesWorld_below _ _ _
theorem nparse_small (s : ByteArray) (n : Nat) (w : World) (h0 : 0 < s.size) (h9 : s.size ≤ 9) (ht : Lib.trimS s.data.toList dig10.data.toList = []) (hz : (s.get! 0).toNat ≠ 48 ∨ s.size = 1) (hp : Lib.parseUintB 32 s.data.toList = .ok n) :
    Calls Tryz.prog 128 #[.string s] w fun e w' => ∃ A c, e = .returned (.tuple #[.slice A (wd n).length c, .int .i64 0]) ∧ Own w' w.heap.size A c (wd n) ∧ Ext w w' := by
  have HT := Lib.hid ht
  have HP := Lib.hid hp
  have hn : n ≤ 4294967295 := Lib.parseUintB_le hp
  clear ht hp
  have hnb : (s.toList == ByteArray.toList ⟨#[]⟩) = false := by rw [ba_0]; exact decide_eq_false (by omega)
  have hnl : ¬ s.toList = [] := fun e => by
    have h : ([] : List UInt8).length = s.size := by rw [← e, Lib.toList_data]; rfl
    simp at h
    omega
  have hni : s.toList.isEmpty = false := by simpa using hnl
  go_enter Tryz.func128, Tryz.ntmps128
  go_wp2_with fail
  refine (Sh.strings_Trim_set s dig10 w (by omega) (by decide) (fun j b hb => (show ∀ b ∈ dig10.data.toList, b.toNat < 128 by decide) b (List.mem_of_getElem? hb))).mono ?_; rintro e w1 ⟨rfl, hx1⟩
  rw [HT.out]
  have HX1 := Lib.hid hx1
  clear hx1
  obtain ⟨c0, hc0, hc1⟩ : ∃ c0 : UInt8, s[0]? = some c0 ∧ s.get! 0 = c0 := by
    refine ⟨s.get! 0, ?_, rfl⟩
    rw [getElem?_pos s 0 h0]
    obtain ⟨d⟩ := s
    have hj' : 0 < d.size := h0
    show some d[0] = some d[0]!
    rw [getElem!_pos d 0 hj']
  have hgo : (¬ c0.toNat = 48) ∨ s.size ≤ 1 := by
    rw [hc1] at hz
    rcases hz with hz | hz
    · exact .inl hz
    · exact .inr (by omega)
  clear hz hc1
  have hge : s[0]'h0 = c0 := by
    rw [getElem?_pos s 0 h0] at hc0
    exact Option.some.inj hc0
  rcases hgo with hq | hq
  · have hqb : ¬ ((c0.toNat : Int) = 48) := by omega
    have hqc : (((c0.toNat : Int)) == 48) = false := beq_eq_false_iff_ne.2 hqb
    go_wp2_with fail
    clear hnb hnl hni hc0 hge
    go_loopg [0, 4] 1 (fun k t q wr => (k = 1 ∧ t = .string s ∧ q = .slice none 0 0 ∧ Hid (Ext w wr)) ∨ (k = 0 ∧ t = .string ⟨#[]⟩ ∧ ∃ A c, q = .slice A (wd n).length c ∧ Hid (Own wr w.heap.size A c (wd n)) ∧ Hid (Ext w wr)))
    case atStart => exact .inl ⟨rfl, rfl, rfl, HX1.out⟩
    case round =>
      clear HX1
      rcases hrel with ⟨hk, rfl, rfl, HX⟩ | ⟨hk, rfl, A, c, rfl, HO, HX⟩
      · have hnb : (s.toList == ByteArray.toList ⟨#[]⟩) = false := by rw [ba_0]; exact decide_eq_false (by omega)
        have hnl : ¬ s.toList = [] := nl_of h0
        have hni : s.toList.isEmpty = false := by simpa using hnl
        by_cases h99 : s.size = 9
        · have hex := Lib.hid (ext_all s 9 h99)
          have hex2 := Lib.hid (ext_none s 9 h99)
          have hm : s.size % 9 = 0 := by rw [h99]
          have h9' : 9 ≤ s.size := by omega
          clear h99
          go_wp2_with fail
          try rw [hex.out]
          refine (Sh.strconv_ParseUint_10_at32_ok s (by omega) n HP.out _).mono ?_; rintro e w2 ⟨rfl, hw⟩
          have HX2 := Lib.hid (HX.out.trans (bw_ext hw))
          clear hw
          go_wp2_with fail
          refine (grow_nil n _ (by omega)).mono ?_; rintro e w3 ⟨A, c, rfl, HO, hx⟩
          have HO3 := Lib.hid (HO.lower HX2.out.size)
          have HX3 := Lib.hid (HX2.out.trans hx)
          clear HO hx
          go_wp2_with fail
          go_roundg 0
          case measure => omega
          case rel => exact .inr ⟨rfl, by first | rfl | rw [hex2.out] | rw [hm, hex2.out], A, c, rfl, HO3.out, HX3.out⟩
        · have hex := Lib.hid (ext_all s s.size rfl)
          have hex2 := Lib.hid (ext_none s s.size rfl)
          have hm : s.size % 9 = s.size := Nat.mod_eq_of_lt (by omega)
          have hz0 : ((s.size : Int) == 0) = false := beq_eq_false_iff_ne.2 (by omega)
          go_wp2_with fail
          try rw [hex.out]
          refine (Sh.strconv_ParseUint_10_at32_ok s (by omega) n HP.out _).mono ?_; rintro e w2 ⟨rfl, hw⟩
          have HX2 := Lib.hid (HX.out.trans (bw_ext hw))
          clear hw
          go_wp2_with fail
          refine (grow_nil n _ (by omega)).mono ?_; rintro e w3 ⟨A, c, rfl, HO, hx⟩
          have HO3 := Lib.hid (HO.lower HX2.out.size)
          have HX3 := Lib.hid (HX2.out.trans hx)
          clear HO hx
          go_wp2_with fail
          go_roundg 0
          case measure => omega
          case rel => exact .inr ⟨rfl, by first | rfl | rw [hex2.out] | rw [hm, hex2.out], A, c, rfl, HO3.out, HX3.out⟩
      · go_wp2_with fail
        refine (told_ok A (wd n) c w.heap.size _ _ HO.out rfl (wf_wd n) n (val_wd n) (by have := wd_len_le n 1 (by show (n : Int) < 4294967296; omega); omega)).mono ?_; rintro e w3 ⟨rfl, HO2, rfl⟩
        go_wp2_with fail
        go_ret2
        exact ⟨A, c, rfl, HO2, HX.out⟩
  · by_cases hqz : c0.toNat = 48
    · have hqb : ((c0.toNat : Int) = 48) := by omega
      have hqc : (((c0.toNat : Int)) == 48) = true := beq_iff_eq.2 hqb
      go_wp2_with fail
      clear hnb hnl hni hc0 hge
      go_loopg [0, 4] 1 (fun k t q wr => (k = 1 ∧ t = .string s ∧ q = .slice none 0 0 ∧ Hid (Ext w wr)) ∨ (k = 0 ∧ t = .string ⟨#[]⟩ ∧ ∃ A c, q = .slice A (wd n).length c ∧ Hid (Own wr w.heap.size A c (wd n)) ∧ Hid (Ext w wr)))
      case atStart => exact .inl ⟨rfl, rfl, rfl, HX1.out⟩
      case round =>
        clear HX1
        rcases hrel with ⟨hk, rfl, rfl, HX⟩ | ⟨hk, rfl, A, c, rfl, HO, HX⟩
        · have hnb : (s.toList == ByteArray.toList ⟨#[]⟩) = false := by rw [ba_0]; exact decide_eq_false (by omega)
          have hnl : ¬ s.toList = [] := nl_of h0
          have hni : s.toList.isEmpty = false := by simpa using hnl
          by_cases h99 : s.size = 9
          · exact absurd h99 (by omega)
          · have hex := Lib.hid (ext_all s s.size rfl)
            have hex2 := Lib.hid (ext_none s s.size rfl)
            have hm : s.size % 9 = s.size := Nat.mod_eq_of_lt (by omega)
            have hz0 : ((s.size : Int) == 0) = false := beq_eq_false_iff_ne.2 (by omega)
            go_wp2_with fail
            try rw [hex.out]
            refine (Sh.strconv_ParseUint_10_at32_ok s (by omega) n HP.out _).mono ?_; rintro e w2 ⟨rfl, hw⟩
            have HX2 := Lib.hid (HX.out.trans (bw_ext hw))
            clear hw
            go_wp2_with fail
            refine (grow_nil n _ (by omega)).mono ?_; rintro e w3 ⟨A, c, rfl, HO, hx⟩
            have HO3 := Lib.hid (HO.lower HX2.out.size)
            have HX3 := Lib.hid (HX2.out.trans hx)
            clear HO hx
            go_wp2_with fail
            go_roundg 0
            case measure => omega
            case rel => exact .inr ⟨rfl, by first | rfl | rw [hex2.out] | rw [hm, hex2.out], A, c, rfl, HO3.out, HX3.out⟩
        · go_wp2_with fail
          refine (told_ok A (wd n) c w.heap.size _ _ HO.out rfl (wf_wd n) n (val_wd n) (by have := wd_len_le n 1 (by show (n : Int) < 4294967296; omega); omega)).mono ?_; rintro e w3 ⟨rfl, HO2, rfl⟩
          go_wp2_with fail
          go_ret2
          exact ⟨A, c, rfl, HO2, HX.out⟩
    · have hqb : ¬ ((c0.toNat : Int) = 48) := by omega
      have hqc : (((c0.toNat : Int)) == 48) = false := beq_eq_false_iff_ne.2 hqb
      go_wp2_with fail
      clear hnb hnl hni hc0 hge
      go_loopg [0, 4] 1 (fun k t q wr => (k = 1 ∧ t = .string s ∧ q = .slice none 0 0 ∧ Hid (Ext w wr)) ∨ (k = 0 ∧ t = .string ⟨#[]⟩ ∧ ∃ A c, q = .slice A (wd n).length c ∧ Hid (Own wr w.heap.size A c (wd n)) ∧ Hid (Ext w wr)))
      case atStart => exact .inl ⟨rfl, rfl, rfl, HX1.out⟩
      case round =>
        clear HX1
        rcases hrel with ⟨hk, rfl, rfl, HX⟩ | ⟨hk, rfl, A, c, rfl, HO, HX⟩
        · have hnb : (s.toList == ByteArray.toList ⟨#[]⟩) = false := by rw [ba_0]; exact decide_eq_false (by omega)
          have hnl : ¬ s.toList = [] := nl_of h0
          have hni : s.toList.isEmpty = false := by simpa using hnl
          by_cases h99 : s.size = 9
          · exact absurd h99 (by omega)
          · have hex := Lib.hid (ext_all s s.size rfl)
            have hex2 := Lib.hid (ext_none s s.size rfl)
            have hm : s.size % 9 = s.size := Nat.mod_eq_of_lt (by omega)
            have hz0 : ((s.size : Int) == 0) = false := beq_eq_false_iff_ne.2 (by omega)
            go_wp2_with fail
            try rw [hex.out]
            refine (Sh.strconv_ParseUint_10_at32_ok s (by omega) n HP.out _).mono ?_; rintro e w2 ⟨rfl, hw⟩
            have HX2 := Lib.hid (HX.out.trans (bw_ext hw))
            clear hw
            go_wp2_with fail
            refine (grow_nil n _ (by omega)).mono ?_; rintro e w3 ⟨A, c, rfl, HO, hx⟩
            have HO3 := Lib.hid (HO.lower HX2.out.size)
            have HX3 := Lib.hid (HX2.out.trans hx)
            clear HO hx
            go_wp2_with fail
            go_roundg 0
            case measure => omega
            case rel => exact .inr ⟨rfl, by first | rfl | rw [hex2.out] | rw [hm, hex2.out], A, c, rfl, HO3.out, HX3.out⟩
        · go_wp2_with fail
          refine (told_ok A (wd n) c w.heap.size _ _ HO.out rfl (wf_wd n) n (val_wd n) (by have := wd_len_le n 1 (by show (n : Int) < 4294967296; omega); omega)).mono ?_; rintro e w3 ⟨rfl, HO2, rfl⟩
          go_wp2_with fail
          go_ret2
          exact ⟨A, c, rfl, HO2, HX.out⟩
theorem rv_str {Z : Nat → Prop} {w : World} {x : ByteArray} {v : Value} (h : RV Z w .st x v) : v = .string x ∧ x.size ≤ maxI := by
  unfold RV at h
  rw [if_neg (by simp [Ty.agg]), RT] at h
  exact ⟨by simpa using h.1, h.2⟩
theorem rq_str {Z : Nat → Prop} {w : World} {base : Nat} {x : ByteArray} (h : x.size ≤ maxI) : RQ true Z w base .st x [.string x] [] := by
  refine ⟨?_, rfl⟩
  rw [RT]
  exact ⟨rfl, h⟩
theorem rq_bool {Z : Nat → Prop} {w : World} {base : Nat} {b : Bool} : RQ true Z w base .bo b [.bool b] [] := by
  refine ⟨?_, rfl⟩
  rw [RT]
def ixB (s p : ByteArray) : Int := Lib.indexByte s.data.toList (p.get! 0)
def sp_sIdx : Spec := { q := .un, ps := [.st, .st], rs := [.it .i64], fresh := true, pre := fun _ x => some (ByteArray.size x.2.1 = 1), post := fun _ x => ((), (ixB x.1 x.2.1, ())) }
theorem ib_rng : ∀ (l : List UInt8) (c : UInt8), Lib.indexByte l c = -1 ∨ (0 ≤ Lib.indexByte l c ∧ Lib.indexByte l c < l.length)
  | [], c => .inl rfl
  | b :: l, c => by
    have ih := ib_rng l c
    unfold Lib.indexByte
    by_cases h : (b == c) = true
    · rw [if_pos h]
      exact .inr ⟨by omega, by simp only [List.length_cons]; omega⟩
    · rw [if_neg h]
      by_cases k : (Lib.indexByte l c == -1) = true
      · rw [if_pos k]
        exact .inl rfl
      · rw [if_neg k]
        rcases ih with ih | ih
        · exact absurd (by rw [ih]; rfl) k
        · exact .inr ⟨by omega, by simp only [List.length_cons]; omega⟩
theorem ixB_rng (s p : ByteArray) : ixB s p = -1 ∨ (0 ≤ ixB s p ∧ ixB s p < s.size) := by
  have := ib_rng s.data.toList (p.get! 0)
  have e : s.data.toList.length = s.size := by simp
  rw [e] at this
  exact this
theorem one_byte {p : ByteArray} (h : p.size = 1) : p = ⟨#[p.get! 0]⟩ := by
  obtain ⟨⟨l⟩⟩ := p
  match l, h with
  | [c], _ => rfl
theorem fo_sIdx : FnOk Tryz.prog 234 sp_sIdx := by
  refine ⟨callFunc_enter Tryz.func234 (by kernel_rfl) rfl, fun Z w gv vs y x hZ hv hp _ _ => ?_⟩
  obtain ⟨s, p, u⟩ := x
  match vs, hv with
  | [v1, v2], ⟨h1, h2, _⟩ =>
    have hp : ByteArray.size p = 1 := hp
    obtain ⟨rfl, s1⟩ := rv_str h1
    obtain ⟨rfl, s2⟩ := rv_str h2
    have e := one_byte hp
    have := Sh.stringslite_Index_one s (p.get! 0) w
    rw [← e] at this
    refine this.mono fun e w' ⟨e1, e2⟩ => ?_
    subst e1 e2
    refine told_new (S := sp_sIdx) (r := (ixB s p, ())) (us := [_]) (bs := []) rfl rfl (.inl ⟨_, rfl, rfl⟩) hZ ⟨[], [], rfl, ⟨?_, rfl⟩, rfl⟩ List.nodup_nil (fun g hg => by simp at hg) (Ext.refl _)
    rw [RT]
    have r := ixB_rng s p
    have m : IntKind.i64.min = -9223372036854775808 := rfl
    have m' : IntKind.i64.max = 9223372036854775807 := rfl
    have m2 : s.size ≤ 9223372036854775807 := s1
    refine ⟨rfl, ?_, ?_⟩
    · show _ ≤ ixB s p
      omega
    · show ixB s p ≤ _
      omega
def cutP (s p : ByteArray) : ByteArray × Bool := (⟨(Lib.trimPrefix s.data.toList p.data.toList).toArray⟩, Lib.hasPrefix s.data.toList p.data.toList)
def sp_sCutP : Spec := { q := .un, ps := [.st, .st], rs := [.st, .bo], fresh := true, pre := fun _ _ => none, post := fun _ x => ((), ((cutP x.1 x.2.1).1, (cutP x.1 x.2.1).2, ())) }
theorem cutP_size (s p : ByteArray) : (cutP s p).1.size ≤ s.size := by
  have := Lib.trimPrefix_le s.data.toList p.data.toList
  show (Lib.trimPrefix s.data.toList p.data.toList).toArray.size ≤ s.data.size
  simpa using this
theorem fo_sCutP : FnOk Tryz.prog 127 sp_sCutP := by
  refine ⟨callFunc_enter Tryz.func127 (by kernel_rfl) rfl, fun Z w gv vs y x hZ hv hp _ _ => ?_⟩
  obtain ⟨s, p, u⟩ := x
  match vs, hv with
  | [v1, v2], ⟨h1, h2, _⟩ =>
    obtain ⟨rfl, s1⟩ := rv_str h1
    obtain ⟨rfl, s2⟩ := rv_str h2
    refine (Sh.strings_CutPrefix s p w).mono fun e w' ⟨e1, e2⟩ => ?_
    subst e1 e2
    exact told_new (S := sp_sCutP) (r := ((cutP s p).1, (cutP s p).2, ())) (us := [_, _]) (bs := []) rfl rfl (.inr ⟨by simp, rfl⟩) hZ ⟨[], [], rfl, rq_str (base := w'.heap.size) (Nat.le_trans (cutP_size s p) s1), [], [], rfl, rq_bool (base := w'.heap.size), rfl⟩ List.nodup_nil (fun g hg => by simp at hg) (Ext.refl _)
def pV (s : ByteArray) : Nat := match Lib.parseUintB 32 s.data.toList with
  | .ok n => n
  | _ => 0
def pOk (s : ByteArray) : Bool := decide (0 < s.size ∧ s.size ≤ 9) && decide (Lib.trimS s.data.toList dig10.data.toList = []) && (decide ((s.get! 0).toNat ≠ 48) || decide (s.size = 1)) && (match Lib.parseUintB 32 s.data.toList with
  | .ok _ => true
  | _ => false)
theorem pOk_of {s : ByteArray} (h : pOk s = true) : 0 < s.size ∧ s.size ≤ 9 ∧ Lib.trimS s.data.toList dig10.data.toList = [] ∧ ((s.get! 0).toNat ≠ 48 ∨ s.size = 1) ∧ Lib.parseUintB 32 s.data.toList = .ok (pV s) := by
  unfold pOk at h
  simp only [Bool.and_eq_true, Bool.or_eq_true, decide_eq_true_eq] at h
  obtain ⟨⟨⟨h1, h2⟩, h3⟩, h4⟩ := h
  refine ⟨h1.1, h1.2, h2, h3, ?_⟩
  unfold pV
  cases hc : Lib.parseUintB 32 s.data.toList
  case ok n => rfl
  all_goals (rw [hc] at h4; cases h4)
def sp_aParse : Spec := { q := .un, ps := [.st], rs := [tW32, .it .i64], fresh := true, pre := fun _ x => some (pOk x.1 = true), post := fun _ x => ((), (wd (pV x.1), 0, ())) }
theorem fo_aParse : FnOk Tryz.prog 128 sp_aParse := by
  refine ⟨callFunc_enter Tryz.func128 (by kernel_rfl) rfl, fun Z w gv vs y x hZ hv hp _ _ => ?_⟩
  obtain ⟨s, u⟩ := x
  match vs, hv with
  | [v1], ⟨h1, _⟩ =>
    obtain ⟨p1, p2, p3, p4, p5⟩ := pOk_of (show pOk s = true from hp)
    obtain ⟨rfl, s1⟩ := rv_str h1
    refine (nparse_small s (pV s) w p1 p2 p3 p4 p5).mono fun e w' ⟨A, c, e1, e2, e3⟩ => ?_
    subst e1
    exact told_WE (S := sp_aParse) rfl rfl rfl Er.zero e2 e3 hZ rfl
def cutB (s p : ByteArray) : ByteArray × ByteArray × Bool := if 0 ≤ ixB s p then (s.extract 0 (ixB s p).toNat, s.extract ((ixB s p).toNat + 1) s.size, true) else (s, ⟨#[]⟩, false)
theorem cut_law {s p : ByteArray} {i : Int} (hs : s.size ≤ 9223372036854775807) (hp : p.size = 1) (hi : i = ixB s p) (h : 0 ≤ i) : ((0 : Int) ≤ 0 ∧ 0 ≤ i ∧ i ≤ (s.size : Int)) ∧ (-9223372036854775808 ≤ i + (p.size : Int) ∧ i + (p.size : Int) ≤ 9223372036854775807) ∧ (0 ≤ i + (p.size : Int) ∧ i + (p.size : Int) ≤ (s.size : Int) ∧ (s.size : Int) ≤ (s.size : Int)) ∧
    (s.extract (Int.toNat 0) i.toNat, s.extract (i + (p.size : Int)).toNat (Int.toNat (s.size : Int)), true, ()) = ((cutB s p).1, (cutB s p).2.1, (cutB s p).2.2, ()) := by
  rcases ixB_rng s p with e | ⟨r0, r1⟩
  · omega
  · rw [hp]
    refine ⟨⟨by omega, by omega, by omega⟩, ⟨by omega, by omega⟩, ⟨by omega, by omega, by omega⟩, ?_⟩
    unfold cutB
    rw [if_pos (by omega), ← hi, Int.toNat_natCast, show (i + ((1 : Nat) : Int)).toNat = i.toNat + 1 by omega]
    rfl
theorem cut_miss {s p : ByteArray} {i : Int} (hi : i = ixB s p) (h : i < 0) : (s, (⟨#[]⟩ : ByteArray), false, ()) = ((cutB s p).1, (cutB s p).2.1, (cutB s p).2.2, ()) := by
  unfold cutB
  rw [if_neg (by omega)]
noncomputable def sp_sCutL : Spec := { q := .un, ps := [.st, .st], rs := [.st, .st, .bo], fresh := true, pre := fun _ x => some (ByteArray.size x.2.1 = 1), post := fun _ x => ((), ((cutB x.1 x.2.1).1, (cutB x.1 x.2.1).2.1, (cutB x.1 x.2.1).2.2, ())) }
noncomputable def iv_sCutL (y : El sp_sCutL.q) (x : Els sp_sCutL.ps) : Nat → Option Inv := fun _ => none
noncomputable abbrev c_sCutL : Cfg := cfgS (Tryz.f170).ntmps false [(234, sp_sIdx.prim)]
def F_sCutL (y : El sp_sCutL.q) (x : Els sp_sCutL.ps) : Prop :=
  ByteArray.size x.2.1 = (1 : Nat) ∧ ∀ (r : Ro [Ty.it IntKind.i64]), r = ((), ixB x.1 x.2.1, ()) → (decide (r.2.1 ≥ (0 : Int)) = true → ((0 : Int) ≤ (0 : Int) ∧ (0 : Int) ≤ r.2.1 ∧ r.2.1 ≤ (↑(ByteArray.size x.1) : Int)) ∧ ((-9223372036854775808 : Int) ≤ r.2.1 + (↑(ByteArray.size x.2.1) : Int) ∧ r.2.1 + (↑(ByteArray.size x.2.1) : Int) ≤ (9223372036854775807 : Int)) ∧ ((0 : Int) ≤ r.2.1 + (↑(ByteArray.size x.2.1) : Int) ∧ r.2.1 + (↑(ByteArray.size x.2.1) : Int) ≤ (↑(ByteArray.size x.1) : Int) ∧ (↑(ByteArray.size x.1) : Int) ≤ (↑(ByteArray.size x.1) : Int)) ∧ (ByteArray.extract x.1 (Int.toNat (0 : Int)) (Int.toNat r.2.1), ByteArray.extract x.1 (r.2.1 + (↑(ByteArray.size x.2.1) : Int)).toNat (↑(ByteArray.size x.1) : Int).toNat, true, ()) = ((cutB x.1 x.2.1).1, (cutB x.1 x.2.1).2.1, (cutB x.1 x.2.1).2.2, ())) ∧ (decide (r.2.1 ≥ (0 : Int)) = false → (x.1, (⟨#[]⟩ : ByteArray), false, ()) = ((cutB x.1 x.2.1).1, (cutB x.1 x.2.1).2.1, (cutB x.1 x.2.1).2.2, ()))
theorem w_sCutL (y : El sp_sCutL.q) (x : Els sp_sCutL.ps) : aW c_sCutL (iv_sCutL y x) Tryz.f170 sp_sCutL y x = F_sCutL y x := by kernel_rfl
theorem m_sCutL (y : El (.un)) (x : Els [.st, .st]) (h2 : wfE (.un) y) (h3 : wfEs [.st, .st] x) (h4 : ByteArray.size x.2.1 = 1) : F_sCutL y x := by
  unfold F_sCutL
  have hs : ByteArray.size x.1 ≤ 9223372036854775807 := h3.1
  refine ⟨h4, ?_⟩
  rintro _ rfl
  exact ⟨fun h => cut_law (i := ixB x.1 x.2.1) hs h4 rfl (geT h), fun h => cut_miss (i := ixB x.1 x.2.1) rfl (geF h)⟩
theorem fo_sCutL : FnOk Tryz.prog 170 sp_sCutL := fnOk_of (C := c_sCutL) iv_sCutL Tryz.func170 rfl (by kernel_rfl) tys_ok (prims_cons (spec_prim fo_sIdx) prims_nil) mixed_ (Nat.le_refl _) rfl fun y x h1 h2 h3 h4 =>
  Eq.mpr (w_sCutL y x) (m_sCutL y x h2 h3 h4)
noncomputable def sp_sCut : Spec := { q := .un, ps := [.st, .st], rs := [.st, .st, .bo], fresh := true, pre := fun _ x => some (ByteArray.size x.2.1 = 1), post := fun _ x => ((), ((cutB x.1 x.2.1).1, (cutB x.1 x.2.1).2.1, (cutB x.1 x.2.1).2.2, ())) }
noncomputable def iv_sCut (y : El sp_sCut.q) (x : Els sp_sCut.ps) : Nat → Option Inv := fun _ => none
noncomputable abbrev c_sCut : Cfg := cfgS (Tryz.f87).ntmps false [(170, sp_sCutL.prim)]
def F_sCut (y : El sp_sCut.q) (x : Els sp_sCut.ps) : Prop :=
  ByteArray.size x.2.1 = (1 : Nat) ∧ ∀ (r : Ro [Ty.st, Ty.st, Ty.bo]), r = ((), (cutB x.1 x.2.1).1, (cutB x.1 x.2.1).2.1, (cutB x.1 x.2.1).2.2, ()) → r.2 = ((cutB x.1 x.2.1).1, (cutB x.1 x.2.1).2.1, (cutB x.1 x.2.1).2.2, ())
theorem w_sCut (y : El sp_sCut.q) (x : Els sp_sCut.ps) : aW c_sCut (iv_sCut y x) Tryz.f87 sp_sCut y x = F_sCut y x := by kernel_rfl
theorem m_sCut (y : El (.un)) (x : Els [.st, .st]) (h2 : wfE (.un) y) (h3 : wfEs [.st, .st] x) (h4 : ByteArray.size x.2.1 = 1) : F_sCut y x := by
  unfold F_sCut
  refine ⟨h4, ?_⟩
  rintro _ rfl
  rfl
theorem fo_sCut : FnOk Tryz.prog 87 sp_sCut := fnOk_of (C := c_sCut) iv_sCut Tryz.func87 rfl (by kernel_rfl) tys_ok (prims_cons (spec_prim fo_sCutL) prims_nil) mixed_ (Nat.le_refl _) rfl fun y x h1 h2 h3 h4 =>
  Eq.mpr (w_sCut y x) (m_sCut y x h2 h3 h4)
noncomputable def sp_rlong : Spec := { q := .un, ps := [tW32], rs := [.bo], fresh := true, pre := fun _ _ => none, post := fun _ x => ((), (decide (2048 < x.1.length), ())) }
noncomputable def iv_rlong (y : El sp_rlong.q) (x : Els sp_rlong.ps) : Nat → Option Inv := fun _ => none
noncomputable abbrev c_rlong : Cfg := cfgS (Tryz.f130).ntmps false []
def F_rlong (y : El sp_rlong.q) (x : Els sp_rlong.ps) : Prop :=
  (decide ((x.1.length : Int) > (2048 : Int)), ()) = (decide ((2048 : Nat) < List.length x.1), ())
theorem w_rlong (y : El sp_rlong.q) (x : Els sp_rlong.ps) : aW c_rlong (iv_rlong y x) Tryz.f130 sp_rlong y x = F_rlong y x := by kernel_rfl
theorem m_rlong (y : El (.un)) (x : Els [tW32]) (h2 : wfE (.un) y) (h3 : wfEs [tW32] x) : F_rlong y x := by
  unfold F_rlong
  refine congrArg (fun b => (b, ())) ?_
  rw [Bool.eq_iff_iff, decide_eq_true_eq, decide_eq_true_eq]
  exact Int.ofNat_lt
theorem fo_rlong : FnOk Tryz.prog 130 sp_rlong := fnOk_of (C := c_rlong) iv_rlong Tryz.func130 rfl (by kernel_rfl) tys_ok prims_nil mixed_ (Nat.le_refl _) rfl fun y x h1 h2 h3 h4 =>
  Eq.mpr (w_rlong y x) (m_rlong y x h2 h3)
def b_sl : ByteArray := ⟨#[47]⟩
def b_mi : ByteArray := ⟨#[45]⟩
def topR (s : ByteArray) : ByteArray × Bool := cutP (cutB s b_sl).1 b_mi
def denR (s : ByteArray) : Nat := bif (cutB s b_sl).2.2 then pV (cutB s b_sl).2.1 else 1
def okR (s : ByteArray) : Bool := decide (s.size ≤ 65536) && pOk (topR s).1 && !((topR s).2 && decide (pV (topR s).1 = 0)) && (bif (cutB s b_sl).2.2 then pOk (cutB s b_sl).2.1 && decide (1 < pV (cutB s b_sl).2.1) else true) && decide (Nat.gcd (pV (topR s).1) (denR s) = 1)
def valR (s : ByteArray) : Fr := ⟨(topR s).2, wd (pV (topR s).1), wd (denR s)⟩
theorem okR_of {s : ByteArray} (h : okR s = true) : s.size ≤ 65536 ∧ pOk (topR s).1 = true ∧ ((topR s).2 = true → pV (topR s).1 ≠ 0) ∧ ((cutB s b_sl).2.2 = true → pOk (cutB s b_sl).2.1 = true ∧ 1 < pV (cutB s b_sl).2.1) ∧ Nat.gcd (pV (topR s).1) (denR s) = 1 := by
  unfold okR at h
  simp only [Bool.and_eq_true, decide_eq_true_eq] at h
  obtain ⟨⟨⟨⟨h1, h2⟩, h3⟩, h4⟩, h5⟩ := h
  refine ⟨h1, h2, fun hn hz => ?_, fun hb => ?_, h5⟩
  · rw [hn, decide_eq_true hz] at h3
    cases h3
  · rw [hb] at h4
    simp only [cond_true, Bool.and_eq_true, decide_eq_true_eq] at h4
    exact h4
theorem pV_len {s : ByteArray} (h : pOk s = true) : (wd (pV s)).length ≤ 1 := by
  obtain ⟨_, _, _, _, p5⟩ := pOk_of h
  have := Lib.parseUintB_le p5
  exact wd_len_le _ 1 (by show ((pV s : Nat) : Int) < 4294967296; omega)
theorem cmp_gt1 {v : Nat} (h : 1 < v) : (cmp (toN (wd v)) (toN [1]) : Int) = 1 := by
  rw [toN_wd, toN_1]
  exact cmp_gt h
theorem cmp_11 {a b : Nat} (h : Nat.gcd a b = 1) : (cmp (toN (wd (Nat.gcd (toN (wd a)) (toN (wd b))))) (toN [1]) : Int) = 0 := by
  rw [toN_wd, toN_wd, toN_wd, h, toN_1]
  rfl
theorem cmp_12 {a : Nat} (h : Nat.gcd a 1 = 1) : (cmp (toN (wd (Nat.gcd (toN (wd a)) (toN [1])))) (toN [1]) : Int) = 0 := by
  rw [toN_wd, toN_1, toN_wd, h]
  rfl
theorem lenM_nz {n : Nat} (h : (lenM 0 (Ty.it IntKind.u32) (wd n) == (0 : Int)) = true) : n = 0 := by
  have h : ((wd n).length : Int) = 0 := eq_of_beq h
  exact wd_len_zero.1 (by omega)
noncomputable def sp_rParse : Spec := { q := .un, ps := [.st], rs := [tR, .it .i64], fresh := true, pre := fun _ x => some (okR x.1 = true), post := fun _ x => pR (valR x.1, 0) }
noncomputable def iv_rParse (y : El sp_rParse.q) (x : Els sp_rParse.ps) : Nat → Option Inv := fun _ => none
noncomputable abbrev c_rParse : Cfg := cfgS (Tryz.f52).ntmps false [(87, sp_sCut.prim), (127, sp_sCutP.prim), (128, sp_aParse.prim), (122, sp_aCmp.prim), (129, sp_aGcd.prim), (130, sp_rlong.prim)]
def F_rParse (y : El sp_rParse.q) (x : Els sp_rParse.ps) : Prop :=
  (decide ((↑(ByteArray.size x.1) : Int) > (65536 : Int)) = true → ((false, [], [], ()), (3 : Int), ()) = (pR (valR x.1, (0 : Int))).2) ∧ (decide ((↑(ByteArray.size x.1) : Int) > (65536 : Int)) = false → (⟨#[(47 : UInt8)]⟩ : ByteArray).size = (1 : Nat) ∧ ∀ (r : Ro [Ty.st, Ty.st, Ty.bo]), r = ((), (cutB x.1 (⟨#[(47 : UInt8)]⟩ : ByteArray)).1, (cutB x.1 (⟨#[(47 : UInt8)]⟩ : ByteArray)).2.1, (cutB x.1 (⟨#[(47 : UInt8)]⟩ : ByteArray)).2.2, ()) → ∀ (r_1 : Ro [Ty.st, Ty.bo]), r_1 = ((), (cutP r.2.1 (⟨#[(45 : UInt8)]⟩ : ByteArray)).1, (cutP r.2.1 (⟨#[(45 : UInt8)]⟩ : ByteArray)).2, ()) → pOk r_1.2.1 = true ∧ ∀ (r_2 : Ro [tW32, Ty.it IntKind.i64]), r_2 = ((), wd (pV r_1.2.1), (0 : El (Ty.it IntKind.i64)), ()) → ((r_2.2.2.1 != (0 : Int)) = true → ((false, [], [], ()), (130 : Int), ()) = (pR (valR x.1, (0 : Int))).2) ∧ ((r_2.2.2.1 != (0 : Int)) = false → (r_1.2.2.1 = true → ((lenM (0 : Nat) (Ty.it IntKind.u32) r_2.2.1 == (0 : Int)) = true → ((false, [], [], ()), (130 : Int), ()) = (pR (valR x.1, (0 : Int))).2) ∧ ((lenM (0 : Nat) (Ty.it IntKind.u32) r_2.2.1 == (0 : Int)) = false → (r.2.2.2.1 = true → pOk r.2.2.1 = true ∧ ∀ (r_3 : Ro [tW32, Ty.it IntKind.i64]), r_3 = ((), wd (pV r.2.2.1), (0 : El (Ty.it IntKind.i64)), ()) → ((r_3.2.2.1 != (0 : Int)) = true → ((false, [], [], ()), (130 : Int), ()) = (pR (valR x.1, (0 : Int))).2) ∧ ((r_3.2.2.1 != (0 : Int)) = false → (r_3.2.1 = wd (toN r_3.2.1) ∧ [(1 : Int)] = wd (toN [(1 : Int)])) ∧ ∀ (r : Ro [Ty.it IntKind.i64]), r = ((), cmp (toN r_3.2.1) (toN [(1 : Int)]), ()) → (decide (r.2.1 ≤ (0 : Int)) = true → ((false, [], [], ()), (130 : Int), ()) = (pR (valR x.1, (0 : Int))).2) ∧ (decide (r.2.1 ≤ (0 : Int)) = false → (r_2.2.1 = wd (toN r_2.2.1) ∧ r_3.2.1 = wd (toN r_3.2.1) ∧ List.length r_2.2.1 ≤ (8192 : Nat) ∧ List.length r_3.2.1 ≤ (8192 : Nat)) ∧ ∀ (r : Ro [tW32, Ty.it IntKind.i64]), r = ((), wd ((toN r_2.2.1).gcd (toN r_3.2.1)), (0 : El (Ty.it IntKind.i64)), ()) → (r.2.1 = wd (toN r.2.1) ∧ [(1 : Int)] = wd (toN [(1 : Int)])) ∧ ∀ (r_4 : Ro [Ty.it IntKind.i64]), r_4 = ((), cmp (toN r.2.1) (toN [(1 : Int)]), ()) → ((r_4.2.1 != (0 : Int)) = true → ((false, [], [], ()), (130 : Int), ()) = (pR (valR x.1, (0 : Int))).2) ∧ ((r_4.2.1 != (0 : Int)) = false → ∀ (r : Ro [Ty.bo]), r = ((), decide ((2048 : Nat) < List.length r_2.2.1), ()) → (r.2.1 = true → ((false, [], [], ()), (3 : Int), ()) = (pR (valR x.1, (0 : Int))).2) ∧ (r.2.1 = false → ∀ (r : Ro [Ty.bo]), r = ((), decide ((2048 : Nat) < List.length r_3.2.1), ()) → (r.2.1 = true → ((false, [], [], ()), (3 : Int), ()) = (pR (valR x.1, (0 : Int))).2) ∧ (r.2.1 = false → ((r_1.2.2.1, r_2.2.1, r_3.2.1, ()), (0 : Int), ()) = (pR (valR x.1, (0 : Int))).2)))))) ∧ (r.2.2.2.1 = false → (r_2.2.1 = wd (toN r_2.2.1) ∧ [(1 : Int)] = wd (toN [(1 : Int)]) ∧ List.length r_2.2.1 ≤ (8192 : Nat) ∧ [(1 : Int)].length ≤ (8192 : Nat)) ∧ ∀ (r : Ro [tW32, Ty.it IntKind.i64]), r = ((), wd ((toN r_2.2.1).gcd (toN [(1 : Int)])), (0 : El (Ty.it IntKind.i64)), ()) → (r.2.1 = wd (toN r.2.1) ∧ [(1 : Int)] = wd (toN [(1 : Int)])) ∧ ∀ (r_3 : Ro [Ty.it IntKind.i64]), r_3 = ((), cmp (toN r.2.1) (toN [(1 : Int)]), ()) → ((r_3.2.1 != (0 : Int)) = true → ((false, [], [], ()), (130 : Int), ()) = (pR (valR x.1, (0 : Int))).2) ∧ ((r_3.2.1 != (0 : Int)) = false → ∀ (r : Ro [Ty.bo]), r = ((), decide ((2048 : Nat) < List.length r_2.2.1), ()) → (r.2.1 = true → ((false, [], [], ()), (3 : Int), ()) = (pR (valR x.1, (0 : Int))).2) ∧ (r.2.1 = false → ∀ (r : Ro [Ty.bo]), r = ((), decide ((2048 : Nat) < [(1 : Int)].length), ()) → (r.2.1 = true → ((false, [], [], ()), (3 : Int), ()) = (pR (valR x.1, (0 : Int))).2) ∧ (r.2.1 = false → ((r_1.2.2.1, r_2.2.1, [(1 : Int)], ()), (0 : Int), ()) = (pR (valR x.1, (0 : Int))).2)))))) ∧ (r_1.2.2.1 = false → (r.2.2.2.1 = true → pOk r.2.2.1 = true ∧ ∀ (r_3 : Ro [tW32, Ty.it IntKind.i64]), r_3 = ((), wd (pV r.2.2.1), (0 : El (Ty.it IntKind.i64)), ()) → ((r_3.2.2.1 != (0 : Int)) = true → ((false, [], [], ()), (130 : Int), ()) = (pR (valR x.1, (0 : Int))).2) ∧ ((r_3.2.2.1 != (0 : Int)) = false → (r_3.2.1 = wd (toN r_3.2.1) ∧ [(1 : Int)] = wd (toN [(1 : Int)])) ∧ ∀ (r : Ro [Ty.it IntKind.i64]), r = ((), cmp (toN r_3.2.1) (toN [(1 : Int)]), ()) → (decide (r.2.1 ≤ (0 : Int)) = true → ((false, [], [], ()), (130 : Int), ()) = (pR (valR x.1, (0 : Int))).2) ∧ (decide (r.2.1 ≤ (0 : Int)) = false → (r_2.2.1 = wd (toN r_2.2.1) ∧ r_3.2.1 = wd (toN r_3.2.1) ∧ List.length r_2.2.1 ≤ (8192 : Nat) ∧ List.length r_3.2.1 ≤ (8192 : Nat)) ∧ ∀ (r : Ro [tW32, Ty.it IntKind.i64]), r = ((), wd ((toN r_2.2.1).gcd (toN r_3.2.1)), (0 : El (Ty.it IntKind.i64)), ()) → (r.2.1 = wd (toN r.2.1) ∧ [(1 : Int)] = wd (toN [(1 : Int)])) ∧ ∀ (r_4 : Ro [Ty.it IntKind.i64]), r_4 = ((), cmp (toN r.2.1) (toN [(1 : Int)]), ()) → ((r_4.2.1 != (0 : Int)) = true → ((false, [], [], ()), (130 : Int), ()) = (pR (valR x.1, (0 : Int))).2) ∧ ((r_4.2.1 != (0 : Int)) = false → ∀ (r : Ro [Ty.bo]), r = ((), decide ((2048 : Nat) < List.length r_2.2.1), ()) → (r.2.1 = true → ((false, [], [], ()), (3 : Int), ()) = (pR (valR x.1, (0 : Int))).2) ∧ (r.2.1 = false → ∀ (r : Ro [Ty.bo]), r = ((), decide ((2048 : Nat) < List.length r_3.2.1), ()) → (r.2.1 = true → ((false, [], [], ()), (3 : Int), ()) = (pR (valR x.1, (0 : Int))).2) ∧ (r.2.1 = false → ((r_1.2.2.1, r_2.2.1, r_3.2.1, ()), (0 : Int), ()) = (pR (valR x.1, (0 : Int))).2)))))) ∧ (r.2.2.2.1 = false → (r_2.2.1 = wd (toN r_2.2.1) ∧ [(1 : Int)] = wd (toN [(1 : Int)]) ∧ List.length r_2.2.1 ≤ (8192 : Nat) ∧ [(1 : Int)].length ≤ (8192 : Nat)) ∧ ∀ (r : Ro [tW32, Ty.it IntKind.i64]), r = ((), wd ((toN r_2.2.1).gcd (toN [(1 : Int)])), (0 : El (Ty.it IntKind.i64)), ()) → (r.2.1 = wd (toN r.2.1) ∧ [(1 : Int)] = wd (toN [(1 : Int)])) ∧ ∀ (r_3 : Ro [Ty.it IntKind.i64]), r_3 = ((), cmp (toN r.2.1) (toN [(1 : Int)]), ()) → ((r_3.2.1 != (0 : Int)) = true → ((false, [], [], ()), (130 : Int), ()) = (pR (valR x.1, (0 : Int))).2) ∧ ((r_3.2.1 != (0 : Int)) = false → ∀ (r : Ro [Ty.bo]), r = ((), decide ((2048 : Nat) < List.length r_2.2.1), ()) → (r.2.1 = true → ((false, [], [], ()), (3 : Int), ()) = (pR (valR x.1, (0 : Int))).2) ∧ (r.2.1 = false → ∀ (r : Ro [Ty.bo]), r = ((), decide ((2048 : Nat) < [(1 : Int)].length), ()) → (r.2.1 = true → ((false, [], [], ()), (3 : Int), ()) = (pR (valR x.1, (0 : Int))).2) ∧ (r.2.1 = false → ((r_1.2.2.1, r_2.2.1, [(1 : Int)], ()), (0 : Int), ()) = (pR (valR x.1, (0 : Int))).2)))))))
theorem w_rParse (y : El sp_rParse.q) (x : Els sp_rParse.ps) : aW c_rParse (iv_rParse y x) Tryz.f52 sp_rParse y x = F_rParse y x := by kernel_rfl
theorem m_rParse (y : El (.un)) (x : Els [.st]) (h2 : wfE (.un) y) (h3 : wfEs [.st] x) (h4 : okR x.1 = true) : F_rParse y x := by
  unfold F_rParse
  obtain ⟨q1, q2, q3, q4, q5⟩ := okR_of h4
  have l1 := pV_len q2
  refine ⟨fun h => absurd (Int.ofNat_lt.1 (gtT h)) (Nat.not_lt.2 q1), fun _ => ⟨rfl, ?_⟩⟩
  rintro _ rfl _ rfl
  refine ⟨q2, ?_⟩
  rintro _ rfl
  refine ⟨fun h => Bool.noConfusion (show false = true from h), fun _ => ⟨fun hn => ⟨fun hz => absurd (lenM_nz hz) (q3 hn), fun _ => ?_⟩, fun hn => ?_⟩⟩
  · refine ⟨fun hb => ?_, fun hb => ?_⟩
    · have hb : (cutB x.1 b_sl).2.2 = true := hb
      obtain ⟨q6, q7⟩ := q4 hb
      have e5 : denR x.1 = pV (cutB x.1 b_sl).2.1 := by unfold denR; rw [hb]; rfl
      rw [e5] at q5
      have l2 := pV_len q6
      refine ⟨q6, ?_⟩
      rintro _ rfl
      refine ⟨fun h => Bool.noConfusion (show false = true from h), fun _ => ⟨⟨nrm_wd _, nrm_1⟩, ?_⟩⟩
      rintro _ rfl
      refine ⟨fun h => ?_, fun _ => ⟨⟨nrm_wd _, nrm_wd _, Nat.le_trans l1 (by decide), Nat.le_trans l2 (by decide)⟩, ?_⟩⟩
      · have h : (cmp (toN (wd (pV (cutB x.1 b_sl).2.1))) (toN [1]) : Int) ≤ 0 := leT h
        rw [cmp_gt1 q7] at h
        exact absurd h (by decide)
      rintro _ rfl
      refine ⟨⟨nrm_wd _, nrm_1⟩, ?_⟩
      rintro _ rfl
      refine ⟨fun h => absurd (cmp_11 q5) (neT h), fun _ => ?_⟩
      rintro _ rfl
      refine ⟨fun h => absurd (of_decide_eq_true h) (Nat.not_lt.2 (Nat.le_trans l1 (by decide))), fun _ => ?_⟩
      rintro _ rfl
      refine ⟨fun h => absurd (of_decide_eq_true h) (Nat.not_lt.2 (Nat.le_trans l2 (by decide))), fun _ => ?_⟩
      unfold valR
      rw [e5]
      rfl
    · have hb : (cutB x.1 b_sl).2.2 = false := hb
      have e5 : denR x.1 = 1 := by unfold denR; rw [hb]; rfl
      rw [e5] at q5
      refine ⟨⟨nrm_wd _, nrm_1, Nat.le_trans l1 (by decide), by decide⟩, ?_⟩
      rintro _ rfl
      refine ⟨⟨nrm_wd _, nrm_1⟩, ?_⟩
      rintro _ rfl
      refine ⟨fun h => absurd (cmp_12 q5) (neT h), fun _ => ?_⟩
      rintro _ rfl
      refine ⟨fun h => absurd (of_decide_eq_true h) (Nat.not_lt.2 (Nat.le_trans l1 (by decide))), fun _ => ?_⟩
      rintro _ rfl
      refine ⟨fun h => Bool.noConfusion (show false = true from h), fun _ => ?_⟩
      unfold valR
      rw [e5, wd_one]
      rfl
  · refine ⟨fun hb => ?_, fun hb => ?_⟩
    · have hb : (cutB x.1 b_sl).2.2 = true := hb
      obtain ⟨q6, q7⟩ := q4 hb
      have e5 : denR x.1 = pV (cutB x.1 b_sl).2.1 := by unfold denR; rw [hb]; rfl
      rw [e5] at q5
      have l2 := pV_len q6
      refine ⟨q6, ?_⟩
      rintro _ rfl
      refine ⟨fun h => Bool.noConfusion (show false = true from h), fun _ => ⟨⟨nrm_wd _, nrm_1⟩, ?_⟩⟩
      rintro _ rfl
      refine ⟨fun h => ?_, fun _ => ⟨⟨nrm_wd _, nrm_wd _, Nat.le_trans l1 (by decide), Nat.le_trans l2 (by decide)⟩, ?_⟩⟩
      · have h : (cmp (toN (wd (pV (cutB x.1 b_sl).2.1))) (toN [1]) : Int) ≤ 0 := leT h
        rw [cmp_gt1 q7] at h
        exact absurd h (by decide)
      rintro _ rfl
      refine ⟨⟨nrm_wd _, nrm_1⟩, ?_⟩
      rintro _ rfl
      refine ⟨fun h => absurd (cmp_11 q5) (neT h), fun _ => ?_⟩
      rintro _ rfl
      refine ⟨fun h => absurd (of_decide_eq_true h) (Nat.not_lt.2 (Nat.le_trans l1 (by decide))), fun _ => ?_⟩
      rintro _ rfl
      refine ⟨fun h => absurd (of_decide_eq_true h) (Nat.not_lt.2 (Nat.le_trans l2 (by decide))), fun _ => ?_⟩
      unfold valR
      rw [e5]
      rfl
    · have hb : (cutB x.1 b_sl).2.2 = false := hb
      have e5 : denR x.1 = 1 := by unfold denR; rw [hb]; rfl
      rw [e5] at q5
      refine ⟨⟨nrm_wd _, nrm_1, Nat.le_trans l1 (by decide), by decide⟩, ?_⟩
      rintro _ rfl
      refine ⟨⟨nrm_wd _, nrm_1⟩, ?_⟩
      rintro _ rfl
      refine ⟨fun h => absurd (cmp_12 q5) (neT h), fun _ => ?_⟩
      rintro _ rfl
      refine ⟨fun h => absurd (of_decide_eq_true h) (Nat.not_lt.2 (Nat.le_trans l1 (by decide))), fun _ => ?_⟩
      rintro _ rfl
      refine ⟨fun h => Bool.noConfusion (show false = true from h), fun _ => ?_⟩
      unfold valR
      rw [e5, wd_one]
      rfl
theorem fo_rParse : FnOk Tryz.prog 52 sp_rParse := fnOk_of (C := c_rParse) iv_rParse Tryz.func52 rfl (by kernel_rfl) tys_ok (prims_cons (spec_prim fo_sCut) (prims_cons (spec_prim fo_sCutP) (prims_cons (spec_prim fo_aParse) (prims_cons (spec_prim fo_aCmp) (prims_cons (spec_prim fo_aGcd) (prims_cons (spec_prim fo_rlong) prims_nil)))))) mixed_ (Nat.le_refl _) rfl fun y x h1 h2 h3 h4 =>
  Eq.mpr (w_rParse y x) (m_rParse y x h2 h3 h4)
def gpow (a b : Int) : Nat → Int × Int
  | 0 => (1, 0)
  | n + 1 => ((gpow a b n).1 * a - (gpow a b n).2 * b, (gpow a b n).1 * b + (gpow a b n).2 * a)
def nrmR (a b : Int) : Int := a * a + b * b
def rpow (a b : Int) (n : Nat) : Ga := ⟨enc (mkRat (gpow a b (2 * n)).1 (nrmR a b ^ n).toNat), enc (mkRat (gpow a b (2 * n)).2 (nrmR a b ^ n).toNat)⟩
def rA (r : El tRot) : Int := r.1
def powB (b t : Int) : Int := if t < 0 then -b else b
def powR (r : El tRot) (t : Int) : El tG × Int × Unit := if rotC r ≠ 0 then (ofGa Ga.zero, rotC r, ()) else if t < -1024 ∨ 1024 < t then (ofGa Ga.zero, 2, ()) else (ofGa (rpow (rA r) (powB r.2.1 t) t.natAbs), 0, ())
theorem pow_bd (k m : Nat) (h : 11 * k < m) : (2000 : Nat) ^ k < 2 ^ m := by
  have h1 : (2000 : Nat) ^ k ≤ 2048 ^ k := Nat.pow_le_pow_left (by decide) k
  have h2 : (2048 : Nat) ^ k = 2 ^ (11 * k) := by rw [show (2048 : Nat) = 2 ^ 11 from rfl, ← Nat.pow_mul]
  have h3 : (2 : Nat) ^ (11 * k) < 2 ^ m := Nat.pow_lt_pow_right (by decide) h
  omega
theorem pw_two (m : Nat) : pw m = ((2 ^ (32 * m) : Nat) : Int) := by
  unfold pw
  rw [show (4294967296 : Int) = ((2 ^ 32 : Nat) : Int) by decide, ← Int.natCast_pow, ← Nat.pow_mul]
theorem wd_bdm {n k m : Nat} (h : n ≤ 2000 ^ k) (hk : 11 * k < 32 * m) : (wd n).length ≤ m := by
  refine wd_len_le _ _ ?_
  have h1 := pow_bd k (32 * m) hk
  rw [pw_two]
  exact Int.ofNat_lt.2 (Nat.lt_of_le_of_lt h h1)
theorem wd_bd {n k : Nat} (h : n ≤ 2000 ^ k) (hk : k ≤ 2100) : (wd n).length ≤ 725 := wd_bdm h (by omega)
def bd (k : Nat) (z : Int) : Prop := z.natAbs ≤ 2000 ^ k
theorem bd.mul {j k : Nat} {a b : Int} (h : bd j a) (h' : bd k b) : bd (j + k) (a * b) := by
  unfold bd at *
  rw [Int.natAbs_mul, Nat.pow_add]
  exact Nat.mul_le_mul h h'
theorem gpow_bd {a b : Int} (ha : a.natAbs ≤ 1000) (hb : b.natAbs ≤ 1000) : ∀ n, bd n (gpow a b n).1 ∧ bd n (gpow a b n).2
  | 0 => ⟨by show (1 : Int).natAbs ≤ 2000 ^ 0; decide, by show (0 : Int).natAbs ≤ 2000 ^ 0; decide⟩
  | n + 1 => by
    obtain ⟨h1, h2⟩ := gpow_bd ha hb n
    have m : ∀ {z c : Int}, bd n z → c.natAbs ≤ 1000 → (z * c).natAbs ≤ 2000 ^ n * 1000 := fun hz hc => by
      rw [Int.natAbs_mul]
      exact Nat.mul_le_mul hz hc
    have e : 2000 ^ (n + 1) = 2000 ^ n * 1000 + 2000 ^ n * 1000 := by rw [Nat.pow_succ]; omega
    constructor
    · show ((gpow a b n).1 * a - (gpow a b n).2 * b).natAbs ≤ _
      have := m h1 ha
      have := m h2 hb
      omega
    · show ((gpow a b n).1 * b + (gpow a b n).2 * a).natAbs ≤ _
      have := m h1 hb
      have := m h2 ha
      omega
theorem nrmR_bd {a b : Int} (ha : a.natAbs ≤ 1000) (hb : b.natAbs ≤ 1000) : bd 2 (nrmR a b) := by
  unfold bd nrmR
  have h1 : (a * a).natAbs ≤ 1000 * 1000 := by rw [Int.natAbs_mul]; exact Nat.mul_le_mul ha ha
  have h2 : (b * b).natAbs ≤ 1000 * 1000 := by rw [Int.natAbs_mul]; exact Nat.mul_le_mul hb hb
  have : (2000 : Nat) ^ 2 = 4000000 := by decide
  omega
theorem npow_bd {d : Int} (h : bd 2 d) : ∀ n, bd (2 * n) (d ^ n)
  | 0 => by rw [Int.pow_zero]; show (1 : Int).natAbs ≤ 2000 ^ 0; decide
  | n + 1 => by
    rw [Int.pow_succ]
    exact (npow_bd h n).mul h
theorem nrmR_pos {a b : Int} (h : 1 ≤ a) : 0 < nrmR a b := by
  unfold nrmR
  have h1 : 1 * 1 ≤ a * a := Int.mul_le_mul h h (by decide) (by omega)
  have h2 : 0 ≤ b * b := by
    rcases Int.le_total 0 b with k | k
    · exact Int.mul_nonneg k k
    · exact Int.mul_nonneg_of_nonpos_of_nonpos k k
  omega
theorem pw_1 {r : El tRot} {t : Int} (h : rotC r ≠ 0) : ((ofGa Ga.zero, rotC r, ()) : El tG × Int × Unit) = powR r t := by unfold powR; rw [if_pos h]
theorem pw_2 {r : El tRot} {t : Int} (h : rotC r = 0) (k : t < -1024 ∨ 1024 < t) : ((ofGa Ga.zero, 2, ()) : El tG × Int × Unit) = powR r t := by unfold powR; rw [if_neg (fun c => c h), if_pos k]
theorem pw_3 {r : El tRot} {t : Int} (h : rotC r = 0) (k : ¬ (t < -1024 ∨ 1024 < t)) : ((ofGa (rpow (rA r) (powB r.2.1 t) t.natAbs), 0, ()) : El tG × Int × Unit) = powR r t := by unfold powR; rw [if_neg (fun c => c h), if_neg k]
theorem neg_rng {t : Int} (h1 : -1024 ≤ t) (h2 : t ≤ 1024) : -9223372036854775808 ≤ -t ∧ -t ≤ 9223372036854775807 := by omega
theorem abs_neg_ {t : Int} (h : t < 0) : ((t.natAbs : Nat) : Int) = -t := by omega
theorem abs_pos_ {t : Int} (h : 0 ≤ t) : ((t.natAbs : Nat) : Int) = t := by omega
end Go.Proofs.YtemlaompalbgiaaGreatDoor
