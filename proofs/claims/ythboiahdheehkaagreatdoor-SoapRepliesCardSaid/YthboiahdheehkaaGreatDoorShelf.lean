/- DERIVED -/
import Derived.Shelf.Strings.Builder1
import Derived.Shelf.Strings.Trim
import Derived.Shelf.Small.Utf8
import Derived.Shelf.Small.Strs
import Derived.Shelf.Small.Wraps
import Derived.Shelf.Strings.BuilderF
import Derived.Shelf.Strings.BuilderK
import Derived.Shelf.Strings.BuilderRune
import Derived.Shelf.Utf8.AppendRune
import Derived.Shelf.Utf8.AppendRunePlain
import Derived.Shelf.Strconv.Itoa0
import Derived.Shelf.Strconv.Itoa1
import Derived.Shelf.LaysM
import Derived.Shelf.Strconv.Itoa2
import Derived.Shelf.Strconv.Itoa3
import Derived.Shelf.Strings.Search1
import Derived.Shelf.Strings.Search2
import Derived.Shelf.Strings.Search3
import Derived.Shelf.Strings.Cut
import Derived.Shelf.Strings.Shaped
import Derived.Shelf.Strings.Prefix
import Derived.Shelf.Unicode.Decode
import Derived.Shelf.Strings.Runes
import Derived.Shelf.Strings.IndexAny
import Derived.Shelf.Strings.AsciiSet
import Derived.Shelf.Strings.IndexAnyAll
import Derived.Shelf.Unicode.DecodeSlow
import Derived.Shelf.Unicode.DecodeAny
import Derived.Shelf.Unicode.DecodeLast
import Derived.Shelf.Strings.BuilderCap
import Derived.Shelf.Slices.Turned
import Derived.Test.YthboiahdheehkaaGreatDoorProg
namespace Go.Proofs
open Go.Shelf
def Tryz.lays161_ren : Go.Shelf.Ren := ⟨fun | 161 => 201 | 231 => 228 | 227 => 230 | 233 => 231 | 235 => 233 | 228 => 254 | 197 => 176 | 151 => 255 | 260 => 222 | 152 => 257 | 137 => 260 | 119 => 220 | 224 => 226 | 225 => 225 | 217 => 224 | 266 => 252 | n => n, fun | 9 => 9 | 4 => 4 | 3 => 3 | 5 => 5 | 117 => 278 | 116 => 277 | 0 => 0 | 124 => 281 | 105 => 238 | 21 => 21 | 119 => 267 | 46 => 271 | 139 => 270 | 138 => 269 | n => n, fun | 3 => 18 | 4 => 19 | n => n⟩
theorem Tryz.lays161 : Go.Proofs.Lays.n161 Tryz.prog Tryz.lays161_ren := {
 mixed := by kernel_rfl
 f119 := Tryz.func220.trans (congrArg some (by kernel_rfl))
 f137 := Tryz.func260.trans (congrArg some (by kernel_rfl))
 f151 := Tryz.func255.trans (congrArg some (by kernel_rfl))
 f152 := Tryz.func257.trans (congrArg some (by kernel_rfl))
 f161 := Tryz.func201.trans (congrArg some (by kernel_rfl))
 f197 := Tryz.func176.trans (congrArg some (by kernel_rfl))
 f217 := Tryz.func224.trans (congrArg some (by kernel_rfl))
 f224 := Tryz.func226.trans (congrArg some (by kernel_rfl))
 f225 := Tryz.func225.trans (congrArg some (by kernel_rfl))
 f227 := Tryz.func230.trans (congrArg some (by kernel_rfl))
 f228 := Tryz.func254.trans (congrArg some (by kernel_rfl))
 f231 := Tryz.func228.trans (congrArg some (by kernel_rfl))
 f233 := Tryz.func231.trans (congrArg some (by kernel_rfl))
 f235 := Tryz.func233.trans (congrArg some (by kernel_rfl))
 f260 := Tryz.func222.trans (congrArg some (by kernel_rfl))
 f266 := Tryz.func252.trans (congrArg some (by kernel_rfl))
 t0 := Tryz.underlying0
 a0 := Tryz.isAgg0
 z0 := Tryz.sizeOf0
 v0 := Tryz.zeroValue0
 t3 := Tryz.underlying3
 a3 := Tryz.isAgg3
 z3 := Tryz.sizeOf3
 v3 := Tryz.zeroValue3
 t4 := Tryz.underlying4
 a4 := Tryz.isAgg4
 z4 := Tryz.sizeOf4
 v4 := Tryz.zeroValue4
 t5 := Tryz.underlying5
 a5 := Tryz.isAgg5
 z5 := Tryz.sizeOf5
 v5 := Tryz.zeroValue5
 t9 := Tryz.underlying9
 a9 := Tryz.isAgg9
 z9 := Tryz.sizeOf9
 v9 := Tryz.zeroValue9
 t21 := Tryz.underlying21
 a21 := Tryz.isAgg21
 z21 := Tryz.sizeOf21
 v21 := Tryz.zeroValue21
 t46 := Tryz.underlying271
 a46 := Tryz.isAgg271
 z46 := Tryz.sizeOf271
 v46 := Tryz.zeroValue271
 t105 := Tryz.underlying238
 a105 := Tryz.isAgg238
 z105 := Tryz.sizeOf238
 v105 := Tryz.zeroValue238
 t116 := Tryz.underlying277
 a116 := Tryz.isAgg277
 z116 := Tryz.sizeOf277
 t117 := Tryz.underlying278
 a117 := Tryz.isAgg278
 z117 := Tryz.sizeOf278
 v117 := Tryz.zeroValue278
 t119 := Tryz.underlying267
 a119 := Tryz.isAgg267
 z119 := Tryz.sizeOf267
 t124 := Tryz.underlying281
 a124 := Tryz.isAgg281
 z124 := Tryz.sizeOf281
 v124 := Tryz.zeroValue281
 t138 := Tryz.underlying269
 a138 := Tryz.isAgg269
 z138 := Tryz.sizeOf269
 v138 := Tryz.zeroValue269
 t139 := Tryz.underlying270
 a139 := Tryz.isAgg270
 z139 := Tryz.sizeOf270
 v139 := Tryz.zeroValue270
 g3 := by kernel_rfl
 g4 := by kernel_rfl }
def Tryz.lays119_ren : Go.Shelf.Ren := ⟨fun | 119 => 220 | n => n, fun | 21 => 21 | 4 => 4 | n => n, fun | n => n⟩
theorem Tryz.lays119 : Go.Proofs.Lays.n119 Tryz.prog Tryz.lays119_ren := {
 mixed := by kernel_rfl
 f119 := Tryz.func220.trans (congrArg some (by kernel_rfl))
 t4 := Tryz.underlying4
 a4 := Tryz.isAgg4
 z4 := Tryz.sizeOf4
 v4 := Tryz.zeroValue4
 t21 := Tryz.underlying21
 a21 := Tryz.isAgg21
 z21 := Tryz.sizeOf21
 v21 := Tryz.zeroValue21 }
theorem Tryz.utf8_ValidRune (r : Int) (w : World) :
  Calls Tryz.prog 220 #[.int .i32 r] w fun e w' => e = .returned (.bool (Lib.validRune r)) ∧ w' = w := Any.utf8_ValidRune Tryz.lays119 r w
def Tryz.lays137_ren : Go.Shelf.Ren := ⟨fun | 137 => 260 | 217 => 224 | 266 => 252 | n => n, fun | 9 => 9 | 5 => 5 | 3 => 3 | n => n, fun | n => n⟩
theorem Tryz.lays137 : Go.Proofs.Lays.n137 Tryz.prog Tryz.lays137_ren := {
 mixed := by kernel_rfl
 f137 := Tryz.func260.trans (congrArg some (by kernel_rfl))
 f217 := Tryz.func224.trans (congrArg some (by kernel_rfl))
 f266 := Tryz.func252.trans (congrArg some (by kernel_rfl))
 t3 := Tryz.underlying3
 a3 := Tryz.isAgg3
 z3 := Tryz.sizeOf3
 v3 := Tryz.zeroValue3
 t5 := Tryz.underlying5
 a5 := Tryz.isAgg5
 z5 := Tryz.sizeOf5
 v5 := Tryz.zeroValue5
 t9 := Tryz.underlying9
 a9 := Tryz.isAgg9
 z9 := Tryz.sizeOf9
 v9 := Tryz.zeroValue9 }
open Go.RowKit in
theorem Tryz.strings_IndexByte (s : ByteArray) (c : Int) (w : World) :
  Calls Tryz.prog 260 #[.string s, .int .u8 c] w fun e w' => e = .returned (.int .i64 (Lib.indexByte s.data.toList c.toNat.toUInt8)) ∧ w' = w := Any.strings_IndexByte Tryz.lays137 s c w
def Tryz.lays103_ren : Go.Shelf.Ren := ⟨fun | 103 => 159 | 210 => 212 | 206 => 198 | n => n, fun | 9 => 9 | 4 => 4 | 24 => 194 | 3 => 3 | n => n, fun | n => n⟩
theorem Tryz.lays103 : Go.Proofs.Lays.n103 Tryz.prog Tryz.lays103_ren := {
 mixed := by kernel_rfl
 f103 := Tryz.func159.trans (congrArg some (by kernel_rfl))
 f206 := Tryz.func198.trans (congrArg some (by kernel_rfl))
 f210 := Tryz.func212.trans (congrArg some (by kernel_rfl))
 t3 := Tryz.underlying3
 a3 := Tryz.isAgg3
 z3 := Tryz.sizeOf3
 v3 := Tryz.zeroValue3
 t4 := Tryz.underlying4
 a4 := Tryz.isAgg4
 z4 := Tryz.sizeOf4
 v4 := Tryz.zeroValue4
 t9 := Tryz.underlying9
 a9 := Tryz.isAgg9
 z9 := Tryz.sizeOf9
 v9 := Tryz.zeroValue9
 t24 := Tryz.underlying194
 a24 := Tryz.isAgg194
 z24 := Tryz.sizeOf194
 v24 := Tryz.zeroValue194 }
open Go.RowKit in
theorem Tryz.strings_CutPrefix (s p : ByteArray) (w : World) :
  Calls Tryz.prog 159 #[.string s, .string p] w fun e w' => e = .returned (.tuple #[.string ⟨(Lib.trimPrefix s.data.toList p.data.toList).toArray⟩, .bool (Lib.hasPrefix s.data.toList p.data.toList)]) ∧ w' = w := Any.strings_CutPrefix Tryz.lays103 s p w
def Tryz.laysM171_ren : Go.Shelf.Ren := ⟨fun | 171 => 119 | 243 => 167 | 246 => 215 | 283 => 246 | 284 => 247 | 285 => 248 | 286 => 249 | 129 => 265 | 317 => 264 | 318 => 266 | 319 => 267 | 320 => 268 | 337 => 270 | 338 => 271 | n => n, fun | 3 => 3 | 9 => 9 | 2 => 2 | 4 => 4 | 171 => 287 | 0 => 0 | 53 => 288 | 37 => 128 | 5 => 5 | 173 => 291 | 212 => 307 | 51 => 295 | 20 => 20 | 213 => 308 | 46 => 271 | 232 => 311 | 233 => 312 | n => n, fun | 17 => 21 | 18 => 22 | 19 => 23 | n => n⟩
theorem Tryz.laysM171 : Go.Proofs.LaysM.n171 Tryz.prog Tryz.laysM171_ren := {
 mixed := by kernel_rfl
 f129 := Tryz.func265.trans (congrArg some (by kernel_rfl))
 f171 := Tryz.func119.trans (congrArg some (by kernel_rfl))
 f243 := Tryz.func167.trans (congrArg some (by kernel_rfl))
 f246 := Tryz.func215.trans (congrArg some (by kernel_rfl))
 f283 := Tryz.func246.trans (congrArg some (by kernel_rfl))
 f284 := Tryz.func247.trans (congrArg some (by kernel_rfl))
 f285 := Tryz.func248.trans (congrArg some (by kernel_rfl))
 f286 := Tryz.func249.trans (congrArg some (by kernel_rfl))
 f317 := Tryz.func264.trans (congrArg some (by kernel_rfl))
 f318 := Tryz.func266.trans (congrArg some (by kernel_rfl))
 f319 := Tryz.func267.trans (congrArg some (by kernel_rfl))
 f320 := Tryz.func268.trans (congrArg some (by kernel_rfl))
 f337 := Tryz.func270.trans (congrArg some (by kernel_rfl))
 f338 := Tryz.func271.trans (congrArg some (by kernel_rfl))
 t0 := Tryz.underlying0
 a0 := Tryz.isAgg0
 z0 := Tryz.sizeOf0
 v0 := Tryz.zeroValue0
 t2 := Tryz.underlying2
 a2 := Tryz.isAgg2
 z2 := Tryz.sizeOf2
 v2 := Tryz.zeroValue2
 t3 := Tryz.underlying3
 a3 := Tryz.isAgg3
 z3 := Tryz.sizeOf3
 v3 := Tryz.zeroValue3
 t4 := Tryz.underlying4
 a4 := Tryz.isAgg4
 z4 := Tryz.sizeOf4
 v4 := Tryz.zeroValue4
 t5 := Tryz.underlying5
 a5 := Tryz.isAgg5
 z5 := Tryz.sizeOf5
 v5 := Tryz.zeroValue5
 t9 := Tryz.underlying9
 a9 := Tryz.isAgg9
 z9 := Tryz.sizeOf9
 v9 := Tryz.zeroValue9
 t20 := Tryz.underlying20
 a20 := Tryz.isAgg20
 z20 := Tryz.sizeOf20
 v20 := Tryz.zeroValue20
 t37 := Tryz.underlying128
 a37 := Tryz.isAgg128
 z37 := Tryz.sizeOf128
 v37 := Tryz.zeroValue128
 t46 := Tryz.underlying271
 a46 := Tryz.isAgg271
 z46 := Tryz.sizeOf271
 v46 := Tryz.zeroValue271
 t51 := Tryz.underlying295
 a51 := Tryz.isAgg295
 z51 := Tryz.sizeOf295
 v51 := Tryz.zeroValue295
 t53 := Tryz.underlying288
 a53 := Tryz.isAgg288
 z53 := Tryz.sizeOf288
 v53 := Tryz.zeroValue288
 t171 := Tryz.underlying287
 a171 := Tryz.isAgg287
 z171 := Tryz.sizeOf287
 v171 := Tryz.zeroValue287
 t173 := Tryz.underlying291
 a173 := Tryz.isAgg291
 z173 := Tryz.sizeOf291
 v173 := Tryz.zeroValue291
 t212 := Tryz.underlying307
 a212 := Tryz.isAgg307
 z212 := Tryz.sizeOf307
 v212 := Tryz.zeroValue307
 t213 := Tryz.underlying308
 a213 := Tryz.isAgg308
 z213 := Tryz.sizeOf308
 t232 := Tryz.underlying311
 a232 := Tryz.isAgg311
 z232 := Tryz.sizeOf311
 v232 := Tryz.zeroValue311
 t233 := Tryz.underlying312
 a233 := Tryz.isAgg312
 z233 := Tryz.sizeOf312
 v233 := Tryz.zeroValue312
 g17 := by kernel_rfl
 g18 := by kernel_rfl
 g19 := by kernel_rfl
 i0 := by kernel_rfl
 i2 := by kernel_rfl
 i3 := by kernel_rfl
 i4 := by kernel_rfl
 i5 := by kernel_rfl
 i9 := by kernel_rfl
 i20 := by kernel_rfl
 i37 := by kernel_rfl
 i46 := by kernel_rfl
 i51 := by kernel_rfl
 i53 := by kernel_rfl
 i171 := by kernel_rfl
 i173 := by kernel_rfl
 i212 := by kernel_rfl
 i232 := by kernel_rfl
 i233 := by kernel_rfl
 m17 := by kernel_rfl
 m18 := by kernel_rfl
 m19 := by kernel_rfl }
open Go.RowKit Go.Sort Go.Lib in
theorem Tryz.strconv_Itoa (n : Int) (h0 : -9223372036854775808 ≤ n) (h1 : n ≤ 9223372036854775807) (w : World) (htab : Lib.TabIs Tryz.prog w "internal/strconv.uint64pow10" .u64 Lib.pow10Tab) :
  Calls Tryz.prog 119 #[.int .i64 n] w fun e w' => e = .returned (.string ⟨(Lib.itoa n).toArray⟩) ∧ ∃ k os, w' = grow (w.drewN k) os := Any.strconv_Itoa Tryz.laysM171 n h0 h1 w htab
def Tryz.lays171_ren : Go.Shelf.Ren := ⟨fun | 171 => 119 | 243 => 167 | 246 => 215 | 283 => 246 | 284 => 247 | 285 => 248 | 286 => 249 | 129 => 265 | 317 => 264 | 318 => 266 | 319 => 267 | 320 => 268 | 337 => 270 | 338 => 271 | n => n, fun | 3 => 3 | 9 => 9 | 2 => 2 | 4 => 4 | 171 => 287 | 0 => 0 | 53 => 288 | 37 => 128 | 5 => 5 | 173 => 291 | 212 => 307 | 51 => 295 | 20 => 20 | 213 => 308 | 46 => 271 | 232 => 311 | 233 => 312 | n => n, fun | 17 => 21 | 18 => 22 | 19 => 23 | n => n⟩
theorem Tryz.lays171 : Go.Proofs.Lays.n171 Tryz.prog Tryz.lays171_ren := {
 mixed := by kernel_rfl
 f129 := Tryz.func265.trans (congrArg some (by kernel_rfl))
 f171 := Tryz.func119.trans (congrArg some (by kernel_rfl))
 f243 := Tryz.func167.trans (congrArg some (by kernel_rfl))
 f246 := Tryz.func215.trans (congrArg some (by kernel_rfl))
 f283 := Tryz.func246.trans (congrArg some (by kernel_rfl))
 f284 := Tryz.func247.trans (congrArg some (by kernel_rfl))
 f285 := Tryz.func248.trans (congrArg some (by kernel_rfl))
 f286 := Tryz.func249.trans (congrArg some (by kernel_rfl))
 f317 := Tryz.func264.trans (congrArg some (by kernel_rfl))
 f318 := Tryz.func266.trans (congrArg some (by kernel_rfl))
 f319 := Tryz.func267.trans (congrArg some (by kernel_rfl))
 f320 := Tryz.func268.trans (congrArg some (by kernel_rfl))
 f337 := Tryz.func270.trans (congrArg some (by kernel_rfl))
 f338 := Tryz.func271.trans (congrArg some (by kernel_rfl))
 t0 := Tryz.underlying0
 a0 := Tryz.isAgg0
 z0 := Tryz.sizeOf0
 v0 := Tryz.zeroValue0
 t2 := Tryz.underlying2
 a2 := Tryz.isAgg2
 z2 := Tryz.sizeOf2
 v2 := Tryz.zeroValue2
 t3 := Tryz.underlying3
 a3 := Tryz.isAgg3
 z3 := Tryz.sizeOf3
 v3 := Tryz.zeroValue3
 t4 := Tryz.underlying4
 a4 := Tryz.isAgg4
 z4 := Tryz.sizeOf4
 v4 := Tryz.zeroValue4
 t5 := Tryz.underlying5
 a5 := Tryz.isAgg5
 z5 := Tryz.sizeOf5
 v5 := Tryz.zeroValue5
 t9 := Tryz.underlying9
 a9 := Tryz.isAgg9
 z9 := Tryz.sizeOf9
 v9 := Tryz.zeroValue9
 t20 := Tryz.underlying20
 a20 := Tryz.isAgg20
 z20 := Tryz.sizeOf20
 v20 := Tryz.zeroValue20
 t37 := Tryz.underlying128
 a37 := Tryz.isAgg128
 z37 := Tryz.sizeOf128
 v37 := Tryz.zeroValue128
 t46 := Tryz.underlying271
 a46 := Tryz.isAgg271
 z46 := Tryz.sizeOf271
 v46 := Tryz.zeroValue271
 t51 := Tryz.underlying295
 a51 := Tryz.isAgg295
 z51 := Tryz.sizeOf295
 v51 := Tryz.zeroValue295
 t53 := Tryz.underlying288
 a53 := Tryz.isAgg288
 z53 := Tryz.sizeOf288
 v53 := Tryz.zeroValue288
 t171 := Tryz.underlying287
 a171 := Tryz.isAgg287
 z171 := Tryz.sizeOf287
 v171 := Tryz.zeroValue287
 t173 := Tryz.underlying291
 a173 := Tryz.isAgg291
 z173 := Tryz.sizeOf291
 v173 := Tryz.zeroValue291
 t212 := Tryz.underlying307
 a212 := Tryz.isAgg307
 z212 := Tryz.sizeOf307
 v212 := Tryz.zeroValue307
 t213 := Tryz.underlying308
 a213 := Tryz.isAgg308
 z213 := Tryz.sizeOf308
 t232 := Tryz.underlying311
 a232 := Tryz.isAgg311
 z232 := Tryz.sizeOf311
 v232 := Tryz.zeroValue311
 t233 := Tryz.underlying312
 a233 := Tryz.isAgg312
 z233 := Tryz.sizeOf312
 v233 := Tryz.zeroValue312
 g17 := by kernel_rfl
 g18 := by kernel_rfl
 g19 := by kernel_rfl }
open Go.RowKit Go.Sort Go.Lib in
theorem Tryz.strconv_Itoa_small (i : Nat) (hi : i < 100) (w : World) :
  Calls Tryz.prog 119 #[.int .i64 i] w fun e w' => e = .returned (.string ⟨(Lib.decDigits i).toArray⟩) ∧ w' = w := Any.strconv_Itoa_small Tryz.lays171 i hi w
def Tryz.lays144_ren : Go.Shelf.Ren := ⟨fun | 144 => 73 | 143 => 127 | 219 => 179 | 217 => 224 | 225 => 225 | 224 => 226 | 267 => 227 | 266 => 252 | 314 => 253 | n => n, fun | 9 => 9 | 4 => 4 | 3 => 3 | 5 => 5 | 46 => 271 | 146 => 296 | 51 => 295 | n => n, fun | 1 => 20 | n => n⟩
theorem Tryz.lays144 : Go.Proofs.Lays.n144 Tryz.prog Tryz.lays144_ren := {
 mixed := by kernel_rfl
 f143 := Tryz.func127.trans (congrArg some (by kernel_rfl))
 f144 := Tryz.func73.trans (congrArg some (by kernel_rfl))
 f217 := Tryz.func224.trans (congrArg some (by kernel_rfl))
 f219 := Tryz.func179.trans (congrArg some (by kernel_rfl))
 f224 := Tryz.func226.trans (congrArg some (by kernel_rfl))
 f225 := Tryz.func225.trans (congrArg some (by kernel_rfl))
 f266 := Tryz.func252.trans (congrArg some (by kernel_rfl))
 f267 := Tryz.func227.trans (congrArg some (by kernel_rfl))
 f314 := Tryz.func253.trans (congrArg some (by kernel_rfl))
 t3 := Tryz.underlying3
 a3 := Tryz.isAgg3
 z3 := Tryz.sizeOf3
 v3 := Tryz.zeroValue3
 t4 := Tryz.underlying4
 a4 := Tryz.isAgg4
 z4 := Tryz.sizeOf4
 v4 := Tryz.zeroValue4
 t5 := Tryz.underlying5
 a5 := Tryz.isAgg5
 z5 := Tryz.sizeOf5
 v5 := Tryz.zeroValue5
 t9 := Tryz.underlying9
 a9 := Tryz.isAgg9
 z9 := Tryz.sizeOf9
 v9 := Tryz.zeroValue9
 t46 := Tryz.underlying271
 a46 := Tryz.isAgg271
 z46 := Tryz.sizeOf271
 v46 := Tryz.zeroValue271
 t51 := Tryz.underlying295
 a51 := Tryz.isAgg295
 z51 := Tryz.sizeOf295
 v51 := Tryz.zeroValue295
 t146 := Tryz.underlying296
 a146 := Tryz.isAgg296
 z146 := Tryz.sizeOf296
 v146 := Tryz.zeroValue296
 g1 := by kernel_rfl }
open Go.RowKit Go.Lib in
theorem Tryz.strings_Contains_one (s : ByteArray) (c : UInt8) (w : World) :
  Calls Tryz.prog 73 #[.string s, .string ⟨#[c]⟩] w fun e w' => e = .returned (.bool (decide (0 ≤ Lib.indexByte s.data.toList c))) ∧ w' = w := Any.strings_Contains_one Tryz.lays144 s c w
def Tryz.lays145_ren : Go.Shelf.Ren := ⟨fun | 145 => 168 | 220 => 216 | 219 => 179 | 217 => 224 | 225 => 225 | 224 => 226 | 267 => 227 | 266 => 252 | 314 => 253 | n => n, fun | 9 => 9 | 4 => 4 | 59 => 233 | 3 => 3 | 5 => 5 | 46 => 271 | 146 => 296 | 51 => 295 | n => n, fun | 1 => 20 | n => n⟩
theorem Tryz.lays145 : Go.Proofs.Lays.n145 Tryz.prog Tryz.lays145_ren := {
 mixed := by kernel_rfl
 f145 := Tryz.func168.trans (congrArg some (by kernel_rfl))
 f217 := Tryz.func224.trans (congrArg some (by kernel_rfl))
 f219 := Tryz.func179.trans (congrArg some (by kernel_rfl))
 f220 := Tryz.func216.trans (congrArg some (by kernel_rfl))
 f224 := Tryz.func226.trans (congrArg some (by kernel_rfl))
 f225 := Tryz.func225.trans (congrArg some (by kernel_rfl))
 f266 := Tryz.func252.trans (congrArg some (by kernel_rfl))
 f267 := Tryz.func227.trans (congrArg some (by kernel_rfl))
 f314 := Tryz.func253.trans (congrArg some (by kernel_rfl))
 t3 := Tryz.underlying3
 a3 := Tryz.isAgg3
 z3 := Tryz.sizeOf3
 v3 := Tryz.zeroValue3
 t4 := Tryz.underlying4
 a4 := Tryz.isAgg4
 z4 := Tryz.sizeOf4
 v4 := Tryz.zeroValue4
 t5 := Tryz.underlying5
 a5 := Tryz.isAgg5
 z5 := Tryz.sizeOf5
 v5 := Tryz.zeroValue5
 t9 := Tryz.underlying9
 a9 := Tryz.isAgg9
 z9 := Tryz.sizeOf9
 v9 := Tryz.zeroValue9
 t46 := Tryz.underlying271
 a46 := Tryz.isAgg271
 z46 := Tryz.sizeOf271
 v46 := Tryz.zeroValue271
 t51 := Tryz.underlying295
 a51 := Tryz.isAgg295
 z51 := Tryz.sizeOf295
 v51 := Tryz.zeroValue295
 t59 := Tryz.underlying233
 a59 := Tryz.isAgg233
 z59 := Tryz.sizeOf233
 v59 := Tryz.zeroValue233
 t146 := Tryz.underlying296
 a146 := Tryz.isAgg296
 z146 := Tryz.sizeOf296
 v146 := Tryz.zeroValue296
 g1 := by kernel_rfl }
open Go.RowKit Go.Lib in
theorem Tryz.strings_Cut (s sep : ByteArray) (m : Int) (w : World) (hs : s.size < 4294967281) (hm : w.cell? ⟨20, 0, none⟩ = some (.int .i64 m)) :
  Calls Tryz.prog 168 #[.string s, .string sep] w fun e w' => e = .returned (.tuple #[.string ⟨(Lib.cut s.data.toList sep.data.toList).1.toArray⟩, .string ⟨(Lib.cut s.data.toList sep.data.toList).2.1.toArray⟩, .bool (Lib.cut s.data.toList sep.data.toList).2.2]) ∧ ∃ n, w' = w.drewN n := Any.strings_Cut Tryz.lays145 s sep m w hs hm
def Tryz.laysM145_ren : Go.Shelf.Ren := ⟨fun | 145 => 168 | 220 => 216 | 219 => 179 | 217 => 224 | 225 => 225 | 224 => 226 | 267 => 227 | 266 => 252 | 314 => 253 | n => n, fun | 9 => 9 | 4 => 4 | 59 => 233 | 3 => 3 | 5 => 5 | 46 => 271 | 146 => 296 | 51 => 295 | n => n, fun | 1 => 20 | n => n⟩
theorem Tryz.laysM145 : Go.Proofs.LaysM.n145 Tryz.prog Tryz.laysM145_ren := {
 mixed := by kernel_rfl
 f145 := Tryz.func168.trans (congrArg some (by kernel_rfl))
 f217 := Tryz.func224.trans (congrArg some (by kernel_rfl))
 f219 := Tryz.func179.trans (congrArg some (by kernel_rfl))
 f220 := Tryz.func216.trans (congrArg some (by kernel_rfl))
 f224 := Tryz.func226.trans (congrArg some (by kernel_rfl))
 f225 := Tryz.func225.trans (congrArg some (by kernel_rfl))
 f266 := Tryz.func252.trans (congrArg some (by kernel_rfl))
 f267 := Tryz.func227.trans (congrArg some (by kernel_rfl))
 f314 := Tryz.func253.trans (congrArg some (by kernel_rfl))
 t3 := Tryz.underlying3
 a3 := Tryz.isAgg3
 z3 := Tryz.sizeOf3
 v3 := Tryz.zeroValue3
 t4 := Tryz.underlying4
 a4 := Tryz.isAgg4
 z4 := Tryz.sizeOf4
 v4 := Tryz.zeroValue4
 t5 := Tryz.underlying5
 a5 := Tryz.isAgg5
 z5 := Tryz.sizeOf5
 v5 := Tryz.zeroValue5
 t9 := Tryz.underlying9
 a9 := Tryz.isAgg9
 z9 := Tryz.sizeOf9
 v9 := Tryz.zeroValue9
 t46 := Tryz.underlying271
 a46 := Tryz.isAgg271
 z46 := Tryz.sizeOf271
 v46 := Tryz.zeroValue271
 t51 := Tryz.underlying295
 a51 := Tryz.isAgg295
 z51 := Tryz.sizeOf295
 v51 := Tryz.zeroValue295
 t59 := Tryz.underlying233
 a59 := Tryz.isAgg233
 z59 := Tryz.sizeOf233
 v59 := Tryz.zeroValue233
 t146 := Tryz.underlying296
 a146 := Tryz.isAgg296
 z146 := Tryz.sizeOf296
 v146 := Tryz.zeroValue296
 g1 := by kernel_rfl
 i3 := by kernel_rfl
 i4 := by kernel_rfl
 i5 := by kernel_rfl
 i9 := by kernel_rfl
 i46 := by kernel_rfl
 i51 := by kernel_rfl
 i59 := by kernel_rfl
 i146 := by kernel_rfl
 m1 := by kernel_rfl
 s1_3 := fun w h => Go.Proofs.cell_of_shapedOpen_int (zero := #[.int .i64 0]) (t := 3) h (of_decide_eq_true (by kernel_rfl)) (by kernel_rfl) rfl (by kernel_rfl) (by kernel_rfl) Tryz.underlying3 }
def Tryz.lays99_ren : Go.Shelf.Ren := ⟨fun | 99 => 148 | 206 => 198 | n => n, fun | 9 => 9 | 4 => 4 | 3 => 3 | n => n, fun | n => n⟩
theorem Tryz.lays99 : Go.Proofs.Lays.n99 Tryz.prog Tryz.lays99_ren := {
 mixed := by kernel_rfl
 f99 := Tryz.func148.trans (congrArg some (by kernel_rfl))
 f206 := Tryz.func198.trans (congrArg some (by kernel_rfl))
 t3 := Tryz.underlying3
 a3 := Tryz.isAgg3
 z3 := Tryz.sizeOf3
 v3 := Tryz.zeroValue3
 t4 := Tryz.underlying4
 a4 := Tryz.isAgg4
 z4 := Tryz.sizeOf4
 v4 := Tryz.zeroValue4
 t9 := Tryz.underlying9
 a9 := Tryz.isAgg9
 z9 := Tryz.sizeOf9
 v9 := Tryz.zeroValue9 }
open Go.RowKit Go.Lib in
theorem Tryz.strings_HasPrefix (s p : ByteArray) (w : World) :
  Calls Tryz.prog 148 #[.string s, .string p] w fun e w' => e = .returned (.bool (Lib.hasPrefix s.data.toList p.data.toList)) ∧ w' = w := Any.strings_HasPrefix Tryz.lays99 s p w
def Tryz.lays197_ren : Go.Shelf.Ren := ⟨fun | 197 => 176 | 260 => 222 | n => n, fun | 9 => 9 | 21 => 21 | 3 => 3 | 4 => 4 | 5 => 5 | 105 => 238 | 119 => 267 | 0 => 0 | 46 => 271 | 139 => 270 | 138 => 269 | n => n, fun | 3 => 18 | 4 => 19 | n => n⟩
theorem Tryz.lays197 : Go.Proofs.Lays.n197 Tryz.prog Tryz.lays197_ren := {
 mixed := by kernel_rfl
 f197 := Tryz.func176.trans (congrArg some (by kernel_rfl))
 f260 := Tryz.func222.trans (congrArg some (by kernel_rfl))
 t0 := Tryz.underlying0
 a0 := Tryz.isAgg0
 z0 := Tryz.sizeOf0
 v0 := Tryz.zeroValue0
 t3 := Tryz.underlying3
 a3 := Tryz.isAgg3
 z3 := Tryz.sizeOf3
 v3 := Tryz.zeroValue3
 t4 := Tryz.underlying4
 a4 := Tryz.isAgg4
 z4 := Tryz.sizeOf4
 v4 := Tryz.zeroValue4
 t5 := Tryz.underlying5
 a5 := Tryz.isAgg5
 z5 := Tryz.sizeOf5
 v5 := Tryz.zeroValue5
 t9 := Tryz.underlying9
 a9 := Tryz.isAgg9
 z9 := Tryz.sizeOf9
 v9 := Tryz.zeroValue9
 t21 := Tryz.underlying21
 a21 := Tryz.isAgg21
 z21 := Tryz.sizeOf21
 v21 := Tryz.zeroValue21
 t46 := Tryz.underlying271
 a46 := Tryz.isAgg271
 z46 := Tryz.sizeOf271
 v46 := Tryz.zeroValue271
 t105 := Tryz.underlying238
 a105 := Tryz.isAgg238
 z105 := Tryz.sizeOf238
 v105 := Tryz.zeroValue238
 t119 := Tryz.underlying267
 a119 := Tryz.isAgg267
 z119 := Tryz.sizeOf267
 t138 := Tryz.underlying269
 a138 := Tryz.isAgg269
 z138 := Tryz.sizeOf269
 v138 := Tryz.zeroValue269
 t139 := Tryz.underlying270
 a139 := Tryz.isAgg270
 z139 := Tryz.sizeOf270
 v139 := Tryz.zeroValue270
 g3 := by kernel_rfl
 g4 := by kernel_rfl }
def Tryz.lays152_ren : Go.Shelf.Ren := ⟨fun | 152 => 257 | 137 => 260 | 119 => 220 | 224 => 226 | 225 => 225 | 217 => 224 | 266 => 252 | n => n, fun | 9 => 9 | 21 => 21 | 3 => 3 | 4 => 4 | 5 => 5 | 0 => 0 | 46 => 271 | n => n, fun | n => n⟩
theorem Tryz.lays152 : Go.Proofs.Lays.n152 Tryz.prog Tryz.lays152_ren := {
 mixed := by kernel_rfl
 f119 := Tryz.func220.trans (congrArg some (by kernel_rfl))
 f137 := Tryz.func260.trans (congrArg some (by kernel_rfl))
 f152 := Tryz.func257.trans (congrArg some (by kernel_rfl))
 f217 := Tryz.func224.trans (congrArg some (by kernel_rfl))
 f224 := Tryz.func226.trans (congrArg some (by kernel_rfl))
 f225 := Tryz.func225.trans (congrArg some (by kernel_rfl))
 f266 := Tryz.func252.trans (congrArg some (by kernel_rfl))
 t0 := Tryz.underlying0
 a0 := Tryz.isAgg0
 z0 := Tryz.sizeOf0
 v0 := Tryz.zeroValue0
 t3 := Tryz.underlying3
 a3 := Tryz.isAgg3
 z3 := Tryz.sizeOf3
 v3 := Tryz.zeroValue3
 t4 := Tryz.underlying4
 a4 := Tryz.isAgg4
 z4 := Tryz.sizeOf4
 v4 := Tryz.zeroValue4
 t5 := Tryz.underlying5
 a5 := Tryz.isAgg5
 z5 := Tryz.sizeOf5
 v5 := Tryz.zeroValue5
 t9 := Tryz.underlying9
 a9 := Tryz.isAgg9
 z9 := Tryz.sizeOf9
 v9 := Tryz.zeroValue9
 t21 := Tryz.underlying21
 a21 := Tryz.isAgg21
 z21 := Tryz.sizeOf21
 v21 := Tryz.zeroValue21
 t46 := Tryz.underlying271
 a46 := Tryz.isAgg271
 z46 := Tryz.sizeOf271
 v46 := Tryz.zeroValue271 }
open Go.RowKit Go.Lib in
theorem Tryz.strings_IndexRune_ascii (s : ByteArray) (r : Int) (w : World) (h0 : 0 ≤ r) (h1 : r < 128) :
  Calls Tryz.prog 257 #[.string s, .int .i32 r] w fun e w' => e = .returned (.int .i64 (Lib.indexByte s.data.toList r.toNat.toUInt8)) ∧ w' = w := Any.strings_IndexRune_ascii Tryz.lays152 s r w h0 h1
def Tryz.lays226_ren : Go.Shelf.Ren := ⟨fun | 226 => 258 | n => n, fun | 3 => 3 | 4 => 4 | n => n, fun | n => n⟩
theorem Tryz.lays226 : Go.Proofs.Lays.n226 Tryz.prog Tryz.lays226_ren := {
 mixed := by kernel_rfl
 f226 := Tryz.func258.trans (congrArg some (by kernel_rfl))
 t3 := Tryz.underlying3
 a3 := Tryz.isAgg3
 z3 := Tryz.sizeOf3
 v3 := Tryz.zeroValue3
 t4 := Tryz.underlying4
 a4 := Tryz.isAgg4
 z4 := Tryz.sizeOf4
 v4 := Tryz.zeroValue4 }
open Go.RowKit Go.Lib in
theorem Tryz.strings_shouldUseASCIISet (n : Int) (w : World) :
  Calls Tryz.prog 258 #[.int .i64 n] w fun e w' => e = .returned (.bool (decide (8 < n))) ∧ w' = w := Any.strings_shouldUseASCIISet Tryz.lays226 n w
def Tryz.lays153_ren : Go.Shelf.Ren := ⟨fun | 153 => 235 | 152 => 257 | 226 => 258 | 227 => 230 | 228 => 254 | 137 => 260 | 119 => 220 | 224 => 226 | 225 => 225 | 217 => 224 | 266 => 252 | n => n, fun | 9 => 9 | 3 => 3 | 4 => 4 | 5 => 5 | 21 => 21 | 117 => 278 | 116 => 277 | 0 => 0 | 46 => 271 | 124 => 281 | n => n, fun | n => n⟩
theorem Tryz.lays153 : Go.Proofs.Lays.n153 Tryz.prog Tryz.lays153_ren := {
 mixed := by kernel_rfl
 f119 := Tryz.func220.trans (congrArg some (by kernel_rfl))
 f137 := Tryz.func260.trans (congrArg some (by kernel_rfl))
 f152 := Tryz.func257.trans (congrArg some (by kernel_rfl))
 f153 := Tryz.func235.trans (congrArg some (by kernel_rfl))
 f217 := Tryz.func224.trans (congrArg some (by kernel_rfl))
 f224 := Tryz.func226.trans (congrArg some (by kernel_rfl))
 f225 := Tryz.func225.trans (congrArg some (by kernel_rfl))
 f226 := Tryz.func258.trans (congrArg some (by kernel_rfl))
 f227 := Tryz.func230.trans (congrArg some (by kernel_rfl))
 f228 := Tryz.func254.trans (congrArg some (by kernel_rfl))
 f266 := Tryz.func252.trans (congrArg some (by kernel_rfl))
 t0 := Tryz.underlying0
 a0 := Tryz.isAgg0
 z0 := Tryz.sizeOf0
 v0 := Tryz.zeroValue0
 t3 := Tryz.underlying3
 a3 := Tryz.isAgg3
 z3 := Tryz.sizeOf3
 v3 := Tryz.zeroValue3
 t4 := Tryz.underlying4
 a4 := Tryz.isAgg4
 z4 := Tryz.sizeOf4
 v4 := Tryz.zeroValue4
 t5 := Tryz.underlying5
 a5 := Tryz.isAgg5
 z5 := Tryz.sizeOf5
 v5 := Tryz.zeroValue5
 t9 := Tryz.underlying9
 a9 := Tryz.isAgg9
 z9 := Tryz.sizeOf9
 v9 := Tryz.zeroValue9
 t21 := Tryz.underlying21
 a21 := Tryz.isAgg21
 z21 := Tryz.sizeOf21
 v21 := Tryz.zeroValue21
 t46 := Tryz.underlying271
 a46 := Tryz.isAgg271
 z46 := Tryz.sizeOf271
 v46 := Tryz.zeroValue271
 t116 := Tryz.underlying277
 a116 := Tryz.isAgg277
 z116 := Tryz.sizeOf277
 t117 := Tryz.underlying278
 a117 := Tryz.isAgg278
 z117 := Tryz.sizeOf278
 v117 := Tryz.zeroValue278
 t124 := Tryz.underlying281
 a124 := Tryz.isAgg281
 z124 := Tryz.sizeOf281
 v124 := Tryz.zeroValue281 }
open Go.RowKit Go.Lib in
theorem Tryz.strings_IndexAny_one (s chars : ByteArray) (w : World) (h1 : chars.size = 1) (hascii : ∀ (j : Nat) b, chars.data.toList[j]? = some b → b.toNat < 128) :
  Calls Tryz.prog 235 #[.string s, .string chars] w fun e w' => e = .returned (.int .i64 (Lib.indexAny s.data.toList chars.data.toList)) ∧ w' = w := Any.strings_IndexAny_one Tryz.lays153 s chars w h1 hascii
open Go.RowKit Go.Lib in
theorem Tryz.strings_IndexAny_long (hv116 : ∀ w, (zeroValue 277).run Tryz.prog w = .ok (.agg (Array.replicate 256 (.bool false))) w) (s chars : ByteArray) (w : World) (h2 : 2 ≤ chars.size) (h8 : 8 < s.size) (hs : s.size < 4294967281) (hcs : chars.size < 4294967281) (hascii : ∀ (j : Nat) b, chars.data.toList[j]? = some b → b.toNat < 128) :
  Calls Tryz.prog 235 #[.string s, .string chars] w fun e w' => e = .returned (.int .i64 (Lib.indexAny s.data.toList chars.data.toList)) ∧ w' = ((w.alloc (.cells (Lib.setCells chars.data.toList) 277)).alloc (.cells (Lib.setCells chars.data.toList) 277)) := Any.strings_IndexAny_long Tryz.lays153 hv116 (by kernel_rfl) s chars w h2 h8 hs hcs hascii
open Go.RowKit Go.Lib in
theorem Tryz.utf8_DecodeRuneInString (s : ByteArray) (w : World) (hT : Lib.Utf8Tabs 18 19 w) :
  Calls Tryz.prog 176 #[.string s] w fun e w' => e = .returned (.tuple #[.int .i32 (Lib.decodeGo s).1, .int .i64 (Lib.decodeGo s).2]) ∧ Below w.heap.size w w' := Any.utf8_DecodeRuneInString Tryz.lays197 s w hT
end Go.Proofs
