/-
  Conditions: none.
-/
import Derived.Shelf.Small.Strs
import Derived.Shelf.Small.Wraps
import Derived.Shelf.Strconv.Itoa3
import Derived.Shelf.Strconv.AtoiAll
import Derived.Shelf.Strings.Prefix
import Derived.Shelf.Strings.Builder1
import Derived.Test.YtaodngiigdbgeaaGreatDoorProg
import Derived.Test.YtaodngiigdbgeaaGreatDoorMaa
import Derived.Test.YtaodngiigdbgeaaGreatDoorMah
import Derived.Test.YtaodngiigdbgeaaGreatDoorMal
import Derived.Test.YtaodngiigdbgeaaGreatDoorMao
set_option maxHeartbeats 16000000
set_option maxRecDepth 20000
set_option linter.unusedSimpArgs false
set_option linter.unusedVariables false
section
namespace Go.Proofs
def Tryz.lays137_ren : Go.Shelf.Ren := ⟨fun | 137 => 228 | 217 => 271 | 266 => 305 | n => n, fun | 9 => 9 | 5 => 5 | 3 => 3 | n => n, fun | n => n⟩
theorem Tryz.lays137 : Go.Proofs.Lays.n137 Tryz.prog Tryz.lays137_ren := {
 mixed := by kernel_rfl
 f137 := Tryz.func228.trans (congrArg some zp)
 f217 := Tryz.func271.trans (congrArg some zp)
 f266 := Tryz.func305.trans (congrArg some zp)
 t3 := Tryz.underlying3
 a3 := Tryz.isAgg3
 z3 := Tryz.sizeOf3
 v3 := Tryz.zeroValue3
 t5 := Tryz.underlying5
 a5 := Tryz.isAgg5
 z5 := Tryz.sizeOf5
 v5 := Tryz.zeroValue5
 t9 := Tryz.underlying9
 a9 := Tryz.isAgg9
 z9 := Tryz.sizeOf9
 v9 := Tryz.zeroValue9 }
open Go.RowKit in
theorem Tryz.strings_IndexByte (s : ByteArray) (c : Int) (w : World) :
  Calls Tryz.prog 228 #[.string s, .int .u8 c] w fun e w' => e = .returned (.int .i64 (Lib.indexByte s.data.toList c.toNat.toUInt8)) ∧ w' = w := Any.strings_IndexByte Tryz.lays137 s c w
def Tryz.lays103_ren : Go.Shelf.Ren := ⟨fun | 103 => 230 | 210 => 274 | 206 => 311 | n => n, fun | 9 => 9 | 4 => 4 | 24 => 268 | 3 => 3 | n => n, fun | n => n⟩
theorem Tryz.lays103 : Go.Proofs.Lays.n103 Tryz.prog Tryz.lays103_ren := {
 mixed := by kernel_rfl
 f103 := Tryz.func230.trans (congrArg some zp)
 f206 := Tryz.func311.trans (congrArg some zp)
 f210 := Tryz.func274.trans (congrArg some zp)
 t3 := Tryz.underlying3
 a3 := Tryz.isAgg3
 z3 := Tryz.sizeOf3
 v3 := Tryz.zeroValue3
 t4 := Tryz.underlying4
 a4 := Tryz.isAgg4
 z4 := Tryz.sizeOf4
 v4 := Tryz.zeroValue4
 t9 := Tryz.underlying9
 a9 := Tryz.isAgg9
 z9 := Tryz.sizeOf9
 v9 := Tryz.zeroValue9
 t24 := Tryz.underlying268
 a24 := Tryz.isAgg268
 z24 := Tryz.sizeOf268
 v24 := Tryz.zeroValue268 }
open Go.RowKit in
theorem Tryz.strings_CutPrefix (s p : ByteArray) (w : World) :
  Calls Tryz.prog 230 #[.string s, .string p] w fun e w' => e = .returned (.tuple #[.string ⟨(Lib.trimPrefix s.data.toList p.data.toList).toArray⟩, .bool (Lib.hasPrefix s.data.toList p.data.toList)]) ∧ w' = w := Any.strings_CutPrefix Tryz.lays103 s p w
def Tryz.laysM171_ren : Go.Shelf.Ren := ⟨fun | 171 => 214 | 243 => 260 | 246 => 292 | 283 => 316 | 284 => 317 | 285 => 318 | 286 => 319 | 129 => 328 | 317 => 327 | 318 => 329 | 319 => 330 | 320 => 331 | 337 => 335 | 338 => 336 | n => n, fun | 3 => 3 | 9 => 9 | 2 => 2 | 4 => 4 | 171 => 324 | 0 => 0 | 53 => 325 | 37 => 242 | 5 => 5 | 173 => 328 | 212 => 338 | 51 => 339 | 20 => 20 | 213 => 340 | 46 => 333 | 232 => 347 | 233 => 348 | n => n, fun | 17 => 4 | 18 => 5 | 19 => 6 | n => n⟩
theorem Tryz.laysM171 : Go.Proofs.LaysM.n171 Tryz.prog Tryz.laysM171_ren := {
 mixed := by kernel_rfl
 f129 := Tryz.func328.trans (congrArg some zp)
 f171 := Tryz.func214.trans (congrArg some zp)
 f243 := Tryz.func260.trans (congrArg some zp)
 f246 := Tryz.func292.trans (congrArg some zp)
 f283 := Tryz.func316.trans (congrArg some zp)
 f284 := Tryz.func317.trans (congrArg some zp)
 f285 := Tryz.func318.trans (congrArg some zp)
 f286 := Tryz.func319.trans (congrArg some zp)
 f317 := Tryz.func327.trans (congrArg some zp)
 f318 := Tryz.func329.trans (congrArg some zp)
 f319 := Tryz.func330.trans (congrArg some zp)
 f320 := Tryz.func331.trans (congrArg some zp)
 f337 := Tryz.func335.trans (congrArg some zp)
 f338 := Tryz.func336.trans (congrArg some zp)
 t0 := Tryz.underlying0
 a0 := Tryz.isAgg0
 z0 := Tryz.sizeOf0
 v0 := Tryz.zeroValue0
 t2 := Tryz.underlying2
 a2 := Tryz.isAgg2
 z2 := Tryz.sizeOf2
 v2 := Tryz.zeroValue2
 t3 := Tryz.underlying3
 a3 := Tryz.isAgg3
 z3 := Tryz.sizeOf3
 v3 := Tryz.zeroValue3
 t4 := Tryz.underlying4
 a4 := Tryz.isAgg4
 z4 := Tryz.sizeOf4
 v4 := Tryz.zeroValue4
 t5 := Tryz.underlying5
 a5 := Tryz.isAgg5
 z5 := Tryz.sizeOf5
 v5 := Tryz.zeroValue5
 t9 := Tryz.underlying9
 a9 := Tryz.isAgg9
 z9 := Tryz.sizeOf9
 v9 := Tryz.zeroValue9
 t20 := Tryz.underlying20
 a20 := Tryz.isAgg20
 z20 := Tryz.sizeOf20
 v20 := Tryz.zeroValue20
 t37 := Tryz.underlying242
 a37 := Tryz.isAgg242
 z37 := Tryz.sizeOf242
 v37 := Tryz.zeroValue242
 t46 := Tryz.underlying333
 a46 := Tryz.isAgg333
 z46 := Tryz.sizeOf333
 v46 := Tryz.zeroValue333
 t51 := Tryz.underlying339
 a51 := Tryz.isAgg339
 z51 := Tryz.sizeOf339
 v51 := Tryz.zeroValue339
 t53 := Tryz.underlying325
 a53 := Tryz.isAgg325
 z53 := Tryz.sizeOf325
 v53 := Tryz.zeroValue325
 t171 := Tryz.underlying324
 a171 := Tryz.isAgg324
 z171 := Tryz.sizeOf324
 v171 := Tryz.zeroValue324
 t173 := Tryz.underlying328
 a173 := Tryz.isAgg328
 z173 := Tryz.sizeOf328
 v173 := Tryz.zeroValue328
 t212 := Tryz.underlying338
 a212 := Tryz.isAgg338
 z212 := Tryz.sizeOf338
 v212 := Tryz.zeroValue338
 t213 := Tryz.underlying340
 a213 := Tryz.isAgg340
 z213 := Tryz.sizeOf340
 t232 := Tryz.underlying347
 a232 := Tryz.isAgg347
 z232 := Tryz.sizeOf347
 v232 := Tryz.zeroValue347
 t233 := Tryz.underlying348
 a233 := Tryz.isAgg348
 z233 := Tryz.sizeOf348
 v233 := Tryz.zeroValue348
 g17 := by kernel_rfl
 g18 := by kernel_rfl
 g19 := by kernel_rfl
 i0 := by kernel_rfl
 i2 := by kernel_rfl
 i3 := by kernel_rfl
 i4 := by kernel_rfl
 i5 := by kernel_rfl
 i9 := by kernel_rfl
 i20 := by kernel_rfl
 i37 := by kernel_rfl
 i46 := by kernel_rfl
 i51 := by kernel_rfl
 i53 := by kernel_rfl
 i171 := by kernel_rfl
 i173 := by kernel_rfl
 i212 := by kernel_rfl
 i232 := by kernel_rfl
 i233 := by kernel_rfl
 m17 := by kernel_rfl
 m18 := by kernel_rfl
 m19 := by kernel_rfl }
open Go.RowKit Go.Sort Go.Lib in
theorem Tryz.strconv_Itoa (n : Int) (h0 : -9223372036854775808 ≤ n) (h1 : n ≤ 9223372036854775807) (w : World) (htab : Lib.TabIs Tryz.prog w "internal/strconv.uint64pow10" .u64 Lib.pow10Tab) :
  Calls Tryz.prog 214 #[.int .i64 n] w fun e w' => e = .returned (.string ⟨(Lib.itoa n).toArray⟩) ∧ ∃ k os, w' = grow (w.drewN k) os := Any.strconv_Itoa Tryz.laysM171 n h0 h1 w htab
def Tryz.laysC172_ren : Go.Shelf.Ren := ⟨fun | 172 => 229 | 244 => 272 | 245 => 273 | 247 => 306 | 279 => 307 | 280 => 308 | 281 => 309 | 282 => 310 | 287 => 324 | 316 => 325 | 171 => 214 | 205 => 326 | 321 => 333 | 322 => 334 | 243 => 260 | 246 => 292 | 283 => 316 | 284 => 317 | 285 => 318 | 286 => 319 | 129 => 328 | 317 => 327 | 318 => 329 | 319 => 330 | 320 => 331 | 337 => 335 | 338 => 336 | n => n, fun | 9 => 9 | 3 => 3 | 75 => 246 | 76 => 247 | 4 => 4 | 5 => 5 | 167 => 314 | 37 => 242 | 0 => 0 | 85 => 315 | 2 => 2 | 168 => 317 | 53 => 325 | 175 => 331 | 46 => 333 | 210 => 335 | 127 => 281 | 145 => 345 | 143 => 343 | 21 => 21 | 171 => 324 | 173 => 328 | 212 => 338 | 51 => 339 | 20 => 20 | 213 => 340 | 232 => 347 | 233 => 348 | 80 => 103 | n => n, fun | 15 => 2 | 16 => 3 | 17 => 4 | 18 => 5 | 19 => 6 | n => n⟩
theorem Tryz.laysC172 : Go.Proofs.LaysC.n172 Tryz.prog Tryz.laysC172_ren := {
 mixed := by kernel_rfl
 f129 := Tryz.func328.trans (congrArg some zp)
 f171 := Tryz.func214.trans (congrArg some zp)
 f172 := Tryz.func229.trans (congrArg some zp)
 f205 := Tryz.func326.trans (congrArg some zp)
 f243 := Tryz.func260.trans (congrArg some zp)
 f244 := Tryz.func272.trans (congrArg some zp)
 f245 := Tryz.func273.trans (congrArg some zp)
 f246 := Tryz.func292.trans (congrArg some zp)
 f247 := Tryz.func306.trans (congrArg some zp)
 f279 := Tryz.func307.trans (congrArg some zp)
 f280 := Tryz.func308.trans (congrArg some zp)
 f281 := Tryz.func309.trans (congrArg some zp)
 f282 := Tryz.func310.trans (congrArg some zp)
 f283 := Tryz.func316.trans (congrArg some zp)
 f284 := Tryz.func317.trans (congrArg some zp)
 f285 := Tryz.func318.trans (congrArg some zp)
 f286 := Tryz.func319.trans (congrArg some zp)
 f287 := Tryz.func324.trans (congrArg some zp)
 f316 := Tryz.func325.trans (congrArg some zp)
 f317 := Tryz.func327.trans (congrArg some zp)
 f318 := Tryz.func329.trans (congrArg some zp)
 f319 := Tryz.func330.trans (congrArg some zp)
 f320 := Tryz.func331.trans (congrArg some zp)
 f321 := Tryz.func333.trans (congrArg some zp)
 f322 := Tryz.func334.trans (congrArg some zp)
 f337 := Tryz.func335.trans (congrArg some zp)
 f338 := Tryz.func336.trans (congrArg some zp)
 t0 := Tryz.underlying0
 a0 := Tryz.isAgg0
 z0 := Tryz.sizeOf0
 v0 := Tryz.zeroValue0
 t2 := Tryz.underlying2
 a2 := Tryz.isAgg2
 z2 := Tryz.sizeOf2
 v2 := Tryz.zeroValue2
 t3 := Tryz.underlying3
 a3 := Tryz.isAgg3
 z3 := Tryz.sizeOf3
 v3 := Tryz.zeroValue3
 t4 := Tryz.underlying4
 a4 := Tryz.isAgg4
 z4 := Tryz.sizeOf4
 v4 := Tryz.zeroValue4
 t5 := Tryz.underlying5
 a5 := Tryz.isAgg5
 z5 := Tryz.sizeOf5
 v5 := Tryz.zeroValue5
 t9 := Tryz.underlying9
 a9 := Tryz.isAgg9
 z9 := Tryz.sizeOf9
 v9 := Tryz.zeroValue9
 t20 := Tryz.underlying20
 a20 := Tryz.isAgg20
 z20 := Tryz.sizeOf20
 v20 := Tryz.zeroValue20
 t21 := Tryz.underlying21
 a21 := Tryz.isAgg21
 z21 := Tryz.sizeOf21
 v21 := Tryz.zeroValue21
 t37 := Tryz.underlying242
 a37 := Tryz.isAgg242
 z37 := Tryz.sizeOf242
 v37 := Tryz.zeroValue242
 t46 := Tryz.underlying333
 a46 := Tryz.isAgg333
 z46 := Tryz.sizeOf333
 v46 := Tryz.zeroValue333
 t51 := Tryz.underlying339
 a51 := Tryz.isAgg339
 z51 := Tryz.sizeOf339
 v51 := Tryz.zeroValue339
 t53 := Tryz.underlying325
 a53 := Tryz.isAgg325
 z53 := Tryz.sizeOf325
 v53 := Tryz.zeroValue325
 t75 := Tryz.underlying246
 a75 := Tryz.isAgg246
 z75 := Tryz.sizeOf246
 v75 := Tryz.zeroValue246
 t76 := Tryz.underlying247
 a76 := Tryz.isAgg247
 z76 := Tryz.sizeOf247
 v76 := Tryz.zeroValue247
 t85 := Tryz.underlying315
 a85 := Tryz.isAgg315
 z85 := Tryz.sizeOf315
 v85 := Tryz.zeroValue315
 t127 := Tryz.underlying281
 a127 := Tryz.isAgg281
 z127 := Tryz.sizeOf281
 v127 := Tryz.zeroValue281
 t143 := Tryz.underlying343
 a143 := Tryz.isAgg343
 z143 := Tryz.sizeOf343
 v143 := Tryz.zeroValue343
 t145 := Tryz.underlying345
 a145 := Tryz.isAgg345
 z145 := Tryz.sizeOf345
 v145 := Tryz.zeroValue345
 t167 := Tryz.underlying314
 a167 := Tryz.isAgg314
 z167 := Tryz.sizeOf314
 v167 := Tryz.zeroValue314
 t168 := Tryz.underlying317
 a168 := Tryz.isAgg317
 z168 := Tryz.sizeOf317
 v168 := Tryz.zeroValue317
 t171 := Tryz.underlying324
 a171 := Tryz.isAgg324
 z171 := Tryz.sizeOf324
 v171 := Tryz.zeroValue324
 t173 := Tryz.underlying328
 a173 := Tryz.isAgg328
 z173 := Tryz.sizeOf328
 v173 := Tryz.zeroValue328
 t175 := Tryz.underlying331
 a175 := Tryz.isAgg331
 z175 := Tryz.sizeOf331
 v175 := Tryz.zeroValue331
 t210 := Tryz.underlying335
 a210 := Tryz.isAgg335
 z210 := Tryz.sizeOf335
 v210 := Tryz.zeroValue335
 t212 := Tryz.underlying338
 a212 := Tryz.isAgg338
 z212 := Tryz.sizeOf338
 v212 := Tryz.zeroValue338
 t213 := Tryz.underlying340
 a213 := Tryz.isAgg340
 z213 := Tryz.sizeOf340
 t232 := Tryz.underlying347
 a232 := Tryz.isAgg347
 z232 := Tryz.sizeOf347
 v232 := Tryz.zeroValue347
 t233 := Tryz.underlying348
 a233 := Tryz.isAgg348
 z233 := Tryz.sizeOf348
 v233 := Tryz.zeroValue348
 g15 := by kernel_rfl
 g16 := by kernel_rfl
 g17 := by kernel_rfl
 g18 := by kernel_rfl
 g19 := by kernel_rfl
 t80 := Tryz.underlying103
 a80 := Tryz.isAgg103
 z80 := Tryz.sizeOf103
 v80 := Tryz.zeroValue103
 i0 := by kernel_rfl
 i2 := by kernel_rfl
 i3 := by kernel_rfl
 i4 := by kernel_rfl
 i5 := by kernel_rfl
 i9 := by kernel_rfl
 i20 := by kernel_rfl
 i21 := by kernel_rfl
 i37 := by kernel_rfl
 i46 := by kernel_rfl
 i51 := by kernel_rfl
 i53 := by kernel_rfl
 i75 := by kernel_rfl
 i76 := by kernel_rfl
 i80 := by kernel_rfl
 i85 := by kernel_rfl
 i127 := by kernel_rfl
 i143 := by kernel_rfl
 i145 := by kernel_rfl
 i167 := by kernel_rfl
 i168 := by kernel_rfl
 i171 := by kernel_rfl
 i173 := by kernel_rfl
 i175 := by kernel_rfl
 i210 := by kernel_rfl
 i212 := by kernel_rfl
 i232 := by kernel_rfl
 i233 := by kernel_rfl
 m15 := by kernel_rfl
 m16 := by kernel_rfl
 m17 := by kernel_rfl
 m18 := by kernel_rfl
 m19 := by kernel_rfl
 c0 := by kernel_rfl
 c2 := by kernel_rfl
 c3 := by kernel_rfl
 c4 := by kernel_rfl
 c5 := by kernel_rfl
 c9 := by kernel_rfl
 c20 := by kernel_rfl
 c21 := by kernel_rfl
 c37 := by kernel_rfl
 c46 := by kernel_rfl
 c51 := by kernel_rfl
 c53 := by kernel_rfl
 c75 := by kernel_rfl
 c76 := by kernel_rfl
 c80 := by kernel_rfl
 c85 := by kernel_rfl
 c127 := by kernel_rfl
 c143 := by kernel_rfl
 c145 := by kernel_rfl
 c167 := by kernel_rfl
 c168 := by kernel_rfl
 c171 := by kernel_rfl
 c173 := by kernel_rfl
 c175 := by kernel_rfl
 c210 := by kernel_rfl
 c212 := by kernel_rfl
 c213 := by kernel_rfl
 c232 := by kernel_rfl
 c233 := by kernel_rfl }
open Go.RowKit in
theorem Tryz.strconv_Atoi_ok (s : ByteArray) (hmax : s.size ≤ 9223372036854775806) (v : Int) (h : Lib.atoiAll s.data.toList = .ok v) (w : World) :
  Calls Tryz.prog 229 #[.string s] w fun e w' => e = .returned (.tuple #[.int .i64 v, .nilIface]) ∧ (w' = w ∨ ∃ t, w' = Lib.bytesWorld w 5 t) := Any.strconv_Atoi_ok Tryz.laysC172 s hmax v h w
open Go.RowKit in
theorem Tryz.strconv_Atoi_syntax (s : ByteArray) (hlim : s.size ≤ 281474976710656) (h0 : ∀ v, Lib.atoiAll s.data.toList ≠ .ok v) (h1 : Lib.atoiAll s.data.toList ≠ .range) (ev : Value) (w : World) (hv : w.cell? ⟨2, 0, none⟩ = some ev) (hev : ev = .nilIface ∨ ∃ te pe, ev = .iface te pe) :
  Calls Tryz.prog 229 #[.string s] w fun e w' => ∃ N, e = .returned (.tuple #[.int .i64 (0), .iface 317 (.pointer (some ⟨N, 0, none⟩))]) ∧ w.heap.size ≤ N ∧ w'.heap[N]? = some (.cells #[.string ⟨#[65, 116, 111, 105]⟩, .string s, ev] 335 (0, 0)) ∧ Below w.heap.size w w' := by
 cases h : Lib.atoiAll s.data.toList with
 | ok v => exact absurd h (h0 v)
 | range => exact absurd h h1
 | _ => exact Any.strconv_Atoi_syntax Tryz.laysC172 s hlim h ev w hv hev
open Go.RowKit in
theorem Tryz.strconv_Atoi_range (s : ByteArray) (hlim : s.size ≤ 281474976710656) (h : Lib.atoiAll s.data.toList = .range) (ev : Value) (w : World) (hv : w.cell? ⟨3, 0, none⟩ = some ev) (hev : ev = .nilIface ∨ ∃ te pe, ev = .iface te pe) :
  Calls Tryz.prog 229 #[.string s] w fun e w' => ∃ N, e = .returned (.tuple #[.int .i64 (Lib.atoiSat s.data.toList), .iface 317 (.pointer (some ⟨N, 0, none⟩))]) ∧ w.heap.size ≤ N ∧ w'.heap[N]? = some (.cells #[.string ⟨#[65, 116, 111, 105]⟩, .string s, ev] 335 (0, 0)) ∧ Below w.heap.size w w' := Any.strconv_Atoi_range Tryz.laysC172 s hlim h ev w hv hev
def Tryz.lays99_ren : Go.Shelf.Ren := ⟨fun | 99 => 298 | 206 => 311 | n => n, fun | 9 => 9 | 4 => 4 | 3 => 3 | n => n, fun | n => n⟩
theorem Tryz.lays99 : Go.Proofs.Lays.n99 Tryz.prog Tryz.lays99_ren := {
 mixed := by kernel_rfl
 f99 := Tryz.func298.trans (congrArg some zp)
 f206 := Tryz.func311.trans (congrArg some zp)
 t3 := Tryz.underlying3
 a3 := Tryz.isAgg3
 z3 := Tryz.sizeOf3
 v3 := Tryz.zeroValue3
 t4 := Tryz.underlying4
 a4 := Tryz.isAgg4
 z4 := Tryz.sizeOf4
 v4 := Tryz.zeroValue4
 t9 := Tryz.underlying9
 a9 := Tryz.isAgg9
 z9 := Tryz.sizeOf9
 v9 := Tryz.zeroValue9 }
open Go.RowKit Go.Lib in
theorem Tryz.strings_HasPrefix (s p : ByteArray) (w : World) :
  Calls Tryz.prog 298 #[.string s, .string p] w fun e w' => e = .returned (.bool (Lib.hasPrefix s.data.toList p.data.toList)) ∧ w' = w := Any.strings_HasPrefix Tryz.lays99 s p w
def Tryz.lays240_ren : Go.Shelf.Ren := ⟨fun | 240 => 259 | 276 => 291 | n => n, fun | 0 => 0 | 4 => 4 | 9 => 9 | 20 => 20 | 70 => 241 | 72 => 244 | 164 => 300 | 37 => 242 | n => n, fun | n => n⟩
theorem Tryz.lays240 : Go.Proofs.Lays.n240 Tryz.prog Tryz.lays240_ren := {
 mixed := by kernel_rfl
 f240 := Tryz.func259.trans (congrArg some zp)
 f276 := Tryz.func291.trans (congrArg some zp)
 t0 := Tryz.underlying0
 a0 := Tryz.isAgg0
 z0 := Tryz.sizeOf0
 v0 := Tryz.zeroValue0
 t4 := Tryz.underlying4
 a4 := Tryz.isAgg4
 z4 := Tryz.sizeOf4
 v4 := Tryz.zeroValue4
 t9 := Tryz.underlying9
 a9 := Tryz.isAgg9
 z9 := Tryz.sizeOf9
 v9 := Tryz.zeroValue9
 t20 := Tryz.underlying20
 a20 := Tryz.isAgg20
 z20 := Tryz.sizeOf20
 v20 := Tryz.zeroValue20
 t70 := Tryz.underlying241
 a70 := Tryz.isAgg241
 z70 := Tryz.sizeOf241
 v70 := Tryz.zeroValue241
 t72 := Tryz.underlying244
 a72 := Tryz.isAgg244
 z72 := Tryz.sizeOf244
 v72 := Tryz.zeroValue244
 t164 := Tryz.underlying300
 a164 := Tryz.isAgg300
 z164 := Tryz.sizeOf300
 v164 := Tryz.zeroValue300 }
theorem Tryz.X72_240 : Builder.X72 Tryz.prog Tryz.lays240_ren := {
 sizeBuilder := by kernel_rfl
 liesBuilder := by kernel_rfl }
end Go.Proofs
end
section
namespace Go.Proofs.YtaodngiigdbgeaaGreatDoor
open Go.RowKit
def letterB (c : UInt8) : Bool := decide (97 ≤ (c.toNat : Int)) && decide ((c.toNat : Int) ≤ 122)
def alnumB (c : UInt8) : Bool := letterB c || digitB c
theorem iC (c : UInt8) : PureC 293 [.val (.int .u8 c.toNat)] (· = .bool (letterB c)) := by
 refine aE Tryz.func293 rfl zg _ Tryz.ntmps293 (aC rfl) (fun w Pr hE => ?_)
 dsimp only [slotsOf, Nat.zero_add, Nat.reduceAdd]
 repeat' (first | refine nx ?_ | refine vi ?_ | refine xb ?_ | (refine wQ ?_ ?_ <;> intro hb hq <;> try omega))
 all_goals (refine gG rfl (.d _) ?_; simp [letterB, *])
theorem aMl (c : UInt8) : PureC 320 [.val (.int .u8 c.toNat)] (· = .bool (alnumB c)) := by
 refine aE Tryz.func320 rfl zg _ Tryz.ntmps320 (aC rfl) (fun w Pr hE => ?_)
 dsimp only [slotsOf, Nat.zero_add, Nat.reduceAdd]
 repeat' (first | refine kQ (iC _) hE ?_ | refine kQ (iI _) hE ?_ | refine qo ?_ | refine vw ?_ | (refine wQ ?_ ?_ <;> intro hb hq <;> try omega))
 all_goals (refine gG rfl (.d _) ?_; simp [alnumB, *])
theorem aAd (c : UInt8) : PureC 294 [.val (.int .u8 c.toNat)] (· = .bool (alnumB c)) := by
 refine aE Tryz.func294 rfl zg _ Tryz.ntmps294 (aC rfl) (fun w Pr hE => ?_)
 dsimp only [slotsOf, Nat.zero_add, Nat.reduceAdd]
 repeat' (first | refine kQ (iC _) hE ?_ | refine kQ (iI _) hE ?_ | refine qo ?_ | refine vw ?_ | (refine wQ ?_ ?_ <;> intro hb hq <;> try omega))
 all_goals (refine gG rfl (.d _) ?_; simp [alnumB, *])
def wordB (s : ByteArray) : Bool := !decide (s = ⟨#[]⟩) && letterB (bAt s 0) && decide (s.size ≤ 20) && decide (pre alnumB s = s.size)
theorem aEy {s : ByteArray} (h : ¬ s = ⟨#[]⟩) : 0 < s.size := by
 rcases Nat.eq_zero_or_pos s.size with h0 | h0
 ·exfalso
  apply h
  cases s with
  | mk d => congr 1; exact Array.eq_empty_of_size_eq_zero h0
 ·exact h0
theorem tE (s : ByteArray) (hs : s.size ≤ 9223372036854775807) : PureC 296 [.str s] (· = .bool (wordB s)) := by
 refine aE Tryz.func296 rfl zg _ Tryz.ntmps296 (aC rfl) (fun w Pr hE => ?_)
 dsimp only [slotsOf, Nat.zero_add, Nat.reduceAdd]
 by_cases h0 : s = ⟨#[]⟩
 ·have h1 : decide (s = ⟨#[]⟩) = true := decide_eq_true h0
  repeat' (first | refine qw ?_ | refine vm ?_ | refine vn ?_ | refine vr ?_ | (refine sQ ?_ ?_ <;> intro hb hq <;> try omega) | (refine wQ ?_ ?_ <;> intro hb hq <;> try omega) | (apply nT; refine qD ?_))
  all_goals (refine gG rfl (.d _) ?_; simp [wordB, h0])
 ·have h1 : decide (s = ⟨#[]⟩) = false := decide_eq_false h0
  have hp := aEy h0
  repeat' (first | refine kQ (iC _) hE ?_ | refine kQ (iU s 320 alnumB hs aMl) hE ?_ | refine qw ?_ | refine vm ?_ | refine vn ?_ | refine vr ?_ | (refine sQ ?_ ?_ <;> intro hb hq <;> try omega) | (refine wQ ?_ ?_ <;> intro hb hq <;> try omega) | (apply nT; refine qD ?_))
  ·refine gG rfl (.d _) ?_
   have h2 := aAg ‹(!letterB (bAt s 0)) = true›
   simp [wordB, h2]
  ·refine gG rfl (.d _) ?_
   have h2 : ¬ s.size ≤ 20 := by omega
   simp [wordB, h2]
  ·refine gG rfl (.d _) ?_
   have h2 := aAf ‹(!letterB (bAt s 0)) = false›
   have h3 : s.size ≤ 20 := by omega
   have h4 : decide ((pre alnumB s : Int) = s.size) = decide (pre alnumB s = s.size) := by
    apply decide_eq_decide.2
    omega
   simp [wordB, h0, h2, h3, h4]
end Go.Proofs.YtaodngiigdbgeaaGreatDoor
end
section
namespace Go.Proofs.YtaodngiigdbgeaaGreatDoor
open Go.RowKit
def numTo (s : ByteArray) : Nat → Int
 | 0 => 0
 | k + 1 => 10 * numTo s k + ((bAt s k).toNat - 48)
theorem wT {c : UInt8} (h : digitB c = true) : 48 ≤ (c.toNat : Int) ∧ (c.toNat : Int) ≤ 57 := by simpa [digitB] using h
theorem oI (F : UInt8 → Bool) (s : ByteArray) : pre F s ≤ s.size := by
 have := (List.takeWhile_sublist (p := F) (l := s.data.toList)).length_le
 simpa [pre] using this
theorem tX {F : UInt8 → Bool} {s : ByteArray} {j : Nat} (h : j < pre F s) : F (bAt s j) = true := by
 have hl := oI F s
 have h1 : j < s.data.toList.length := by simp; have : s.data.size = s.size := rfl; omega
 rw [kY s j h1]
 have h2 : (s.data.toList.takeWhile F)[j]'h = s.data.toList[j] := by
  have := List.takeWhile_prefix (l := s.data.toList) F
  exact List.IsPrefix.getElem this h
 have h3 := List.all_takeWhile (p := F) (l := s.data.toList)
 rw [List.all_eq_true] at h3
 exact h2 ▸ h3 _ (List.getElem_mem h)
theorem sM {F : UInt8 → Bool} {s : ByteArray} (h : pre F s < s.size) : F (bAt s (pre F s)) = false := by
 have h1 : pre F s < s.data.toList.length := by simpa using h
 rw [kY s _ h1]
 have key : ∀ (l : List UInt8) (h : (l.takeWhile F).length < l.length), F (l[(l.takeWhile F).length]) = false := by
  intro l
  induction l with
  | nil => intro h; simp at h
  | cons x l ih =>
   intro h
   by_cases hx : F x = true
   ·simp only [List.takeWhile_cons, hx, if_true, List.length_cons, List.getElem_cons_succ] at h ⊢
    exact ih zb
   ·simp [List.takeWhile_cons, hx]
 exact key _ h1
theorem aPc {s : ByteArray} {k : Nat} (h : ∀ j, j < k → digitB (bAt s j) = true) : 0 ≤ numTo s k ∧ numTo s k < ((10 ^ k : Nat) : Int) := by
 induction k with
 | zero => simp [numTo]
 | succ k ih =>
  have h1 := ih fun j hj => h j zb
  have h2 := wT (h k zb)
  have e : (10 : Nat) ^ (k + 1) = 10 * 10 ^ k := by rw [Nat.pow_succ, Nat.mul_comm]
  rw [numTo, e]
  omega
theorem aPo {k : Nat} (h : k ≤ 16) : (10 : Nat) ^ k ≤ 10000000000000000 := Nat.pow_le_pow_right (n := 10) zb h
def numOk (s : ByteArray) : Bool := decide (0 < s.size) && decide (pre digitB s = s.size) && (decide (s.size = 1) || !decide ((bAt s 0).toNat = 48)) && decide (numTo s s.size ≤ 1000000000000000)
def numD (s : ByteArray) : D := if numOk s then .tup [.int (numTo s s.size), .bool true] else .tup [.int 0, .bool false]
theorem aPb {s : ByteArray} {k : Nat} (h : ∀ j, j < k → digitB (bAt s j) = true) (h0 : ¬ (bAt s 0).toNat = 48) (hk : 0 < k) : ((10 ^ (k - 1) : Nat) : Int) ≤ numTo s k := by
 induction k with
 | zero => omega
 | succ k ih =>
  have h2 := wT (h k zb)
  rcases Nat.eq_zero_or_pos k with rfl | hk'
  ·simp [numTo]
   omega
  ·have h1 := ih (fun j hj => h j zb) hk'
   have e : (10 : Nat) ^ (k + 1 - 1) = 10 * 10 ^ (k - 1) := by
    obtain ⟨m, rfl⟩ : ∃ m, k = m + 1 := ⟨k - 1, by omega⟩
    simp only [Nat.add_sub_cancel]
    rw [Nat.pow_succ, Nat.mul_comm]
   rw [numTo, e]
   omega
theorem aHd {s : ByteArray} (h : 16 < s.size) : numOk s = false := by
 refine Bool.eq_false_iff.2 fun hn => ?_
 simp only [numOk, Bool.and_eq_true, Bool.or_eq_true, Bool.not_eq_true', decide_eq_true_eq, decide_eq_false_iff_not] at hn
 obtain ⟨⟨⟨h1, h2⟩, h3⟩, h4⟩ := hn
 have h0 : ¬ (bAt s 0).toNat = 48 := h3.resolve_left zb
 have h5 := aPb (k := s.size) (fun j hj => tX zb) h0 h1
 have h6 : (10 : Nat) ^ 16 ≤ 10 ^ (s.size - 1) := Nat.pow_le_pow_right (n := 10) zb zb
 have h7 : (10 : Nat) ^ 16 = 10000000000000000 := by decide
 omega
theorem aFd {s : ByteArray} : s = ⟨#[48]⟩ ↔ s.size = 1 ∧ (bAt s 0).toNat = 48 := by
 constructor
 ·rintro rfl
  exact ⟨rfl, rfl⟩
 ·rintro ⟨h1, h2⟩
  obtain ⟨d⟩ := s
  have h3 : d.size = 1 := h1
  obtain ⟨x, rfl⟩ : ∃ x, d = #[x] := by
   obtain ⟨l⟩ := d
   match l, h3 with
   | [x], _ => exact ⟨x, rfl⟩
  simp [bAt] at h2
  have : x = 48 := UInt8.toNat_inj.1 (by simpa using h2)
  rw [this]
theorem sI {s : ByteArray} (h : numOk s = false) : numD s = .tup [.int 0, .bool false] := by simp [numD, h]
theorem xL (s : ByteArray) (hs : s.size ≤ 9223372036854775807) : PureC 297 [.str s] (· = numD s) := by
 refine aE Tryz.func297 rfl zg _ Tryz.ntmps297 (aC rfl) (fun w Pr hE => ?_)
 dsimp only [slotsOf, Nat.zero_add, Nat.reduceAdd]
 by_cases h0 : s = ⟨#[]⟩
 ·have h1 : decide (s = ⟨#[]⟩) = true := decide_eq_true h0
  repeat' (first | refine nj ?_ | refine nw ?_ | refine ny ?_ | refine qb ?_ | refine xg ?_ | (refine sQ ?_ ?_ <;> intro hb hq <;> try omega) | (refine wQ ?_ ?_ <;> intro hb hq <;> try omega))
  refine sX (by rfl) zx zx ?_
  rw [h0]
  rfl
 have h1 : decide (s = ⟨#[]⟩) = false := decide_eq_false h0
 have hp := aEy h0
 by_cases hd : pre digitB s = s.size
 rotate_left
 ·have h2 : (!decide ((pre digitB s : Int) = s.size)) = true := by simp; omega
  repeat' (first | refine kQ (iU s 295 digitB hs iI) hE ?_ | refine nj ?_ | refine nw ?_ | refine ny ?_ | refine qb ?_ | refine xg ?_ | (refine sQ ?_ ?_ <;> intro hb hq <;> try omega) | (refine wQ ?_ ?_ <;> intro hb hq <;> try omega))
  refine sX (by rfl) zx zx ?_
  rw [sI (by simp [numOk, hd])]
 have h2 : (!decide ((pre digitB s : Int) = s.size)) = false := by simp; omega
 have hdig : ∀ j, j < s.size → digitB (bAt s j) = true := fun j hj => tX zb
 repeat' (first | refine kQ (iU s 295 digitB hs iI) hE ?_ | refine nj ?_ | refine nw ?_ | refine ny ?_ | refine qb ?_ | refine xg ?_ | (refine sQ ?_ ?_ <;> intro hb hq <;> try omega) | (refine wQ ?_ ?_ <;> intro hb hq <;> try omega))
 all_goals try
  refine sX (by rfl) (by exact ToD.d _) (by exact ToD.d _) ?_
  first
   | rw [sI (aHd zb)]
   | (have h3 : ¬ s.size = 1 := fun h => ‹¬ s = ⟨#[48]⟩› (aFd.2 ⟨h, by omega⟩)
      rw [sI (by simp [numOk, h3]; omega)])
 all_goals
  refine bB (fun n sl ob => ∃ k : Nat, n = s.size - k ∧ k ≤ s.size ∧ sl = [(31, .d (.int k)), (30, .d (.int s.size)), (4, .d (.int (numTo s k))), (0, .d (.str s))] ∧ ob = []) (⟨0, rfl, by omega, rfl, rfl⟩) ?_
  rintro n sl ob ⟨k, rfl, hk, rfl, rfl⟩
  have hb1 := aPc (s := s) (k := k) fun j hj => hdig j zb
  have hb2 := aPo (k := k) zb
  by_cases hlt : k < s.size
  ·have hb3 := wT (hdig k hlt)
   repeat' (first | refine nj ?_ | refine nw ?_ | refine ny ?_ | refine qb ?_ | refine xg ?_ | (refine sQ ?_ ?_ <;> intro hb hq <;> try omega) | (refine wQ ?_ ?_ <;> intro hb hq <;> try omega))
   refine bK (⟨k + 1, rfl, by omega, rfl, rfl⟩) zb
  ·obtain rfl : k = s.size := by omega
   repeat' (first | refine nj ?_ | refine nw ?_ | refine ny ?_ | refine qb ?_ | refine xg ?_ | (refine sQ ?_ ?_ <;> intro hb hq <;> try omega) | (refine wQ ?_ ?_ <;> intro hb hq <;> try omega))
   ·skip
    refine sX (by rfl) zx zx ?_
    rw [sI (by simp [numOk]; omega)]
   ·skip
    refine sX (by rfl) zx zx ?_
    have hok : numOk s = true := by
     have h5 : s.size = 1 ∨ ¬ (bAt s 0).toNat = 48 := by first | exact .inr zb | exact .inl (aFd.1 ‹s = ⟨#[48]⟩›).1
     simp [numOk, hp, hd, h5]
     omega
    simp [numD, hok]
end Go.Proofs.YtaodngiigdbgeaaGreatDoor
end
section
namespace Go.Proofs.YtaodngiigdbgeaaGreatDoor
open Go.RowKit
theorem wJ {c : UInt8} (h : letterB c = true) : alnumB c = true := by simp [alnumB, h]
end Go.Proofs.YtaodngiigdbgeaaGreatDoor
end
section
namespace Go.Proofs.YtaodngiigdbgeaaGreatDoor
open Go.RowKit
structure Tok where
 k : Int
 s : ByteArray
 n : Int
 p : Int
 deriving DecidableEq
def Tok.cells (t : Tok) : List D := [.int t.k, .str t.s, .int t.n, .int t.p]
def Tok.zero : Tok := ⟨0, ⟨#[]⟩, 0, 0⟩
def hasP (s p : ByteArray) : Bool := Lib.hasPrefix s.data.toList p.data.toList
theorem qP (s p : ByteArray) : PureC 298 [.str s, .str p] (· = .bool (hasP s p)) := by
 refine ⟨⟨_, Tryz.func298, by decide, rfl⟩, fun w Pr vs h1 h2 h3 h4 => ?_⟩
 match vs, h3 with
 | [v1, v2], _ =>
  have e1 := h4 0 v1 _ rfl rfl
  have e2 := h4 1 v2 _ rfl rfl
  cases e1
  cases e2
  refine (Tryz.strings_HasPrefix s p w).mono fun e w' ⟨he, hw⟩ => ?_
  subst hw
  exact ⟨_, _, he, rfl, .val _, Below.refl _ _⟩
def signOf (s : ByteArray) : Option ByteArray := signsL.find? (hasP s)
def nextV (s : ByteArray) : Tok × Int :=
 if letterB (bAt s 0) then (if wordB (s.extract 0 (pre alnumB s)) then (⟨0, s.extract 0 (pre alnumB s), 0, 0⟩, 0) else (Tok.zero, 11))
 else if digitB (bAt s 0) then (if numOk (s.extract 0 (pre digitB s)) then (⟨1, s.extract 0 (pre digitB s), numTo (s.extract 0 (pre digitB s)) (pre digitB s), 0⟩, 0) else (Tok.zero, 3))
 else match signOf s with
  | some x => (⟨2, x, 0, 0⟩, 0)
  | none => (Tok.zero, 10)
theorem aGt {α : Type} {f : α → Bool} {l : List α} {k : Nat} {x : α} (hx : l[k]? = some x) (h : f x = true) (hp : ∀ j y, j < k → l[j]? = some y → f y = false) : l.find? f = some x := by
 obtain ⟨hk, he⟩ := List.getElem?_eq_some_iff.1 hx
 rw [List.find?_eq_some_iff_getElem]
 refine ⟨h, k, hk, he, fun j hj => ?_⟩
 simp [hp j _ hj (List.getElem?_eq_getElem zb)]
theorem iJ {s : ByteArray} {a b : Nat} (h : b ≤ s.size) : (s.extract a b).size = b - a := by simp; omega
theorem aEx (s : ByteArray) (h0 : 0 < s.size) (hs : s.size ≤ 9223372036854775807) : PureC 263 [.str s] (· = .tup [.agg (nextV s).1.cells, .int (nextV s).2]) := by
 refine aE Tryz.func263 rfl zg _ Tryz.ntmps263 (aC rfl) (fun w Pr hE => ?_)
 dsimp only [slotsOf, Nat.zero_add, Nat.reduceAdd]
 have hl1 := oI alnumB s
 have hl2 := oI digitB s
 have hz1 := iJ (s := s) (a := 0) hl1
 have hz2 := iJ (s := s) (a := 0) hl2
 cases hl : letterB (bAt s 0)
 ·cases hd : digitB (bAt s 0)
  ·skip
   repeat' (first | refine kQ (iC _) hE ?_ | refine kQ (iI _) hE ?_ | refine qm ?_ | refine va ?_ | refine vb ?_ | refine xj ?_ | (refine sQ ?_ ?_ <;> intro hb hq <;> try omega) | (apply aB (.load _ _); first | refine aK (eP rfl rfl rfl) (aA rfl) ?_ | refine aK (bZ rfl rfl (dJ rfl rfl) rfl) (aA rfl) ?_ | refine aK (bZ rfl rfl rfl rfl) (aA rfl) ?_ | refine aK (dA rfl rfl rfl rfl) (aA rfl) ?_ | refine aK (dB rfl rfl rfl zy rfl) (aA rfl) ?_ | refine aK (gB hE zc rfl rfl) (aA rfl) ?_) | (apply aB (.alloc _); refine aD (eI rfl zy rfl (aA rfl) rfl) rfl ?_) | (apply aB (.store _ _ _); first | refine aD (aN rfl rfl (dR rfl) nofun zy zl (.inl ⟨rfl, rfl⟩) rfl (aC rfl) zy) rfl ?_ | refine aD (aN rfl rfl (dR rfl) nofun zy zl (.inr rfl) rfl (aC rfl) zy) rfl ?_ | refine aD (aN rfl rfl (dM rfl) nofun zy zl (.inl ⟨rfl, rfl⟩) rfl (aC rfl) zy) rfl ?_ | refine aD (aN rfl rfl (hU rfl) nofun zy zl (.inl ⟨rfl, rfl⟩) rfl (aC rfl) zy) rfl ?_) | (apply aB (.build _ _); first | refine aK (eH rfl zd zi) (aA rfl) ?_ | refine aK (fE rfl zh (by rfl) (by rfl)) (aA rfl) ?_ | refine aK (fF rfl zh (by rfl)) (aA rfl) ?_))
   refine rP (fun n sl ob => ∃ k : Nat, n = 11 - k ∧ k ≤ 11 ∧ (∀ j x, j < k → signsL[j]? = some x → hasP s x = false) ∧ sl = [(44, .d (.int k)), (43, .d (.agg (signsL.map D.str))), (3, .d (.int 0)), (2, .box 2 0), (0, .d (.str s))] ∧ ob = [(2, .box 265 [.d (.int 0), .d (.str ⟨#[]⟩), .d (.int 0), .d (.int 0)])]) (_) _ _ (⟨0, rfl, by omega, by simp, rfl, rfl⟩) ?_ ?_ ?_
   ·(repeat (first | exact kO | (apply iV; focus (first | rfl | exact yZ jc | (simp [look, Tok.cells]; done)))))
   ·(repeat (first | exact cU | (apply bY; focus (first | rfl | (simp [find, Tok.cells]; done)))))
   rintro n sl ob ⟨k, rfl, hk, hp, rfl, rfl⟩
   by_cases hlt : k < 11
   ·obtain ⟨x, hx⟩ : ∃ x, signsL[k]? = some x := ⟨_, List.getElem?_eq_getElem (show k < signsL.length from hlt)⟩
    have hx2 : (signsL.map D.str)[k]? = some (.str x) := by simp [hx]
    cases hh : hasP s x
    ·skip
     repeat' (first | (apply aB (.index _ _ _); refine aK (aRk rfl rfl rfl rfl jy hlt hx2) (aA rfl) ?_) | refine kQ (qP s x) hE ?_ | refine qm ?_ | refine va ?_ | refine vb ?_ | refine xj ?_ | (refine sQ ?_ ?_ <;> intro hb hq <;> try omega) | (apply aB (.load _ _); first | refine aK (eP rfl rfl rfl) (aA rfl) ?_ | refine aK (bZ rfl rfl (dJ rfl rfl) rfl) (aA rfl) ?_ | refine aK (bZ rfl rfl rfl rfl) (aA rfl) ?_ | refine aK (dA rfl rfl rfl rfl) (aA rfl) ?_ | refine aK (dB rfl rfl rfl zy rfl) (aA rfl) ?_ | refine aK (gB hE zc rfl rfl) (aA rfl) ?_) | (apply aB (.alloc _); refine aD (eI rfl zy rfl (aA rfl) rfl) rfl ?_) | (apply aB (.store _ _ _); first | refine aD (aN rfl rfl (dR rfl) nofun zy zl (.inl ⟨rfl, rfl⟩) rfl (aC rfl) zy) rfl ?_ | refine aD (aN rfl rfl (dR rfl) nofun zy zl (.inr rfl) rfl (aC rfl) zy) rfl ?_ | refine aD (aN rfl rfl (dM rfl) nofun zy zl (.inl ⟨rfl, rfl⟩) rfl (aC rfl) zy) rfl ?_ | refine aD (aN rfl rfl (hU rfl) nofun zy zl (.inl ⟨rfl, rfl⟩) rfl (aC rfl) zy) rfl ?_) | (apply aB (.build _ _); first | refine aK (eH rfl zd zi) (aA rfl) ?_ | refine aK (fE rfl zh (by rfl) (by rfl)) (aA rfl) ?_ | refine aK (fF rfl zh (by rfl)) (aA rfl) ?_))
     refine rL _ _ _ (⟨k + 1, rfl, by omega, fun j y hj hy => (Nat.lt_succ_iff_lt_or_eq.1 hj).elim (fun h => hp j y h hy) (fun e => by subst e; rw [hx] at hy; cases hy; exact hh), rfl, rfl⟩) zb ?_ ?_
     ·(repeat (first | exact kO | (apply iV; focus (first | rfl | exact yZ jc | (simp [look, Tok.cells]; done)))))
     ·(repeat (first | exact cU | (apply bY; focus (first | rfl | (simp [find, Tok.cells]; done)))))
    ·skip
     repeat' (first | (apply aB (.index _ _ _); refine aK (aRk rfl rfl rfl rfl jy hlt hx2) (aA rfl) ?_) | refine kQ (qP s x) hE ?_ | refine qm ?_ | refine va ?_ | refine vb ?_ | refine xj ?_ | (refine sQ ?_ ?_ <;> intro hb hq <;> try omega) | (apply aB (.load _ _); first | refine aK (eP rfl rfl rfl) (aA rfl) ?_ | refine aK (bZ rfl rfl (dJ rfl rfl) rfl) (aA rfl) ?_ | refine aK (bZ rfl rfl rfl rfl) (aA rfl) ?_ | refine aK (dA rfl rfl rfl rfl) (aA rfl) ?_ | refine aK (dB rfl rfl rfl zy rfl) (aA rfl) ?_ | refine aK (gB hE zc rfl rfl) (aA rfl) ?_) | (apply aB (.alloc _); refine aD (eI rfl zy rfl (aA rfl) rfl) rfl ?_) | (apply aB (.store _ _ _); first | refine aD (aN rfl rfl (dR rfl) nofun zy zl (.inl ⟨rfl, rfl⟩) rfl (aC rfl) zy) rfl ?_ | refine aD (aN rfl rfl (dR rfl) nofun zy zl (.inr rfl) rfl (aC rfl) zy) rfl ?_ | refine aD (aN rfl rfl (dM rfl) nofun zy zl (.inl ⟨rfl, rfl⟩) rfl (aC rfl) zy) rfl ?_ | refine aD (aN rfl rfl (hU rfl) nofun zy zl (.inl ⟨rfl, rfl⟩) rfl (aC rfl) zy) rfl ?_) | (apply aB (.build _ _); first | refine aK (eH rfl zd zi) (aA rfl) ?_ | refine aK (fE rfl zh (by rfl) (by rfl)) (aA rfl) ?_ | refine aK (fF rfl zh (by rfl)) (aA rfl) ?_))
     refine mU (by rfl) (by first | exact ResX.tmp _ _ zx | exact ResX.cellA _ _ _ _ _ _ _ rfl rfl rfl zy rfl | exact ResX.cell1 _ _ _ _ _ _ rfl rfl rfl zx) (by first | exact ResX.tmp _ _ zx | exact ResX.cellA _ _ _ _ _ _ _ rfl rfl rfl zy rfl | exact ResX.cell1 _ _ _ _ _ _ rfl rfl rfl zx) ?_
     have h3 : signOf s = some x := aGt hx hh hp
     simp only [nextV, hl, hd, h3]
     rfl
   ·obtain rfl : k = 11 := by omega
    have h3 : signOf s = none := by
     rw [signOf, List.find?_eq_none]
     intro x hx
     obtain ⟨j, hj, rfl⟩ := List.getElem_of_mem hx
     simp [hp j _ hj (List.getElem?_eq_getElem hj)]
    repeat' (first | refine qm ?_ | refine va ?_ | refine vb ?_ | refine xj ?_ | (refine sQ ?_ ?_ <;> intro hb hq <;> try omega) | (apply aB (.load _ _); first | refine aK (eP rfl rfl rfl) (aA rfl) ?_ | refine aK (bZ rfl rfl (dJ rfl rfl) rfl) (aA rfl) ?_ | refine aK (bZ rfl rfl rfl rfl) (aA rfl) ?_ | refine aK (dA rfl rfl rfl rfl) (aA rfl) ?_ | refine aK (dB rfl rfl rfl zy rfl) (aA rfl) ?_ | refine aK (gB hE zc rfl rfl) (aA rfl) ?_) | (apply aB (.alloc _); refine aD (eI rfl zy rfl (aA rfl) rfl) rfl ?_) | (apply aB (.store _ _ _); first | refine aD (aN rfl rfl (dR rfl) nofun zy zl (.inl ⟨rfl, rfl⟩) rfl (aC rfl) zy) rfl ?_ | refine aD (aN rfl rfl (dR rfl) nofun zy zl (.inr rfl) rfl (aC rfl) zy) rfl ?_ | refine aD (aN rfl rfl (dM rfl) nofun zy zl (.inl ⟨rfl, rfl⟩) rfl (aC rfl) zy) rfl ?_ | refine aD (aN rfl rfl (hU rfl) nofun zy zl (.inl ⟨rfl, rfl⟩) rfl (aC rfl) zy) rfl ?_) | (apply aB (.build _ _); first | refine aK (eH rfl zd zi) (aA rfl) ?_ | refine aK (fE rfl zh (by rfl) (by rfl)) (aA rfl) ?_ | refine aK (fF rfl zh (by rfl)) (aA rfl) ?_))
    refine mU (by rfl) (by first | exact ResX.tmp _ _ zx | exact ResX.cellA _ _ _ _ _ _ _ rfl rfl rfl zy rfl | exact ResX.cell1 _ _ _ _ _ _ rfl rfl rfl zx) (by first | exact ResX.tmp _ _ zx | exact ResX.cellA _ _ _ _ _ _ _ rfl rfl rfl zy rfl | exact ResX.cell1 _ _ _ _ _ _ rfl rfl rfl zx) ?_
    simp only [nextV, hl, hd, h3]
    rfl
  ·cases hn : numOk (s.extract 0 (pre digitB s))
   ·have hn2 := sI hn
    repeat' (first | refine kQ (iC _) hE ?_ | refine kQ (iI _) hE ?_ | refine kQ (iU s 295 digitB hs iI) hE ?_ | (apply aF; refine bP (xL (s.extract 0 (pre digitB s)) zb) hE ?_; rw [hn2]; rintro _ rfl) | refine qm ?_ | refine va ?_ | refine vb ?_ | refine xj ?_ | (refine sQ ?_ ?_ <;> intro hb hq <;> try omega) | (apply aB (.load _ _); first | refine aK (eP rfl rfl rfl) (aA rfl) ?_ | refine aK (bZ rfl rfl (dJ rfl rfl) rfl) (aA rfl) ?_ | refine aK (bZ rfl rfl rfl rfl) (aA rfl) ?_ | refine aK (dA rfl rfl rfl rfl) (aA rfl) ?_ | refine aK (dB rfl rfl rfl zy rfl) (aA rfl) ?_ | refine aK (gB hE zc rfl rfl) (aA rfl) ?_) | (apply aB (.alloc _); refine aD (eI rfl zy rfl (aA rfl) rfl) rfl ?_) | (apply aB (.store _ _ _); first | refine aD (aN rfl rfl (dR rfl) nofun zy zl (.inl ⟨rfl, rfl⟩) rfl (aC rfl) zy) rfl ?_ | refine aD (aN rfl rfl (dR rfl) nofun zy zl (.inr rfl) rfl (aC rfl) zy) rfl ?_ | refine aD (aN rfl rfl (dM rfl) nofun zy zl (.inl ⟨rfl, rfl⟩) rfl (aC rfl) zy) rfl ?_ | refine aD (aN rfl rfl (hU rfl) nofun zy zl (.inl ⟨rfl, rfl⟩) rfl (aC rfl) zy) rfl ?_) | (apply aB (.build _ _); first | refine aK (eH rfl zd zi) (aA rfl) ?_ | refine aK (fE rfl zh (by rfl) (by rfl)) (aA rfl) ?_ | refine aK (fF rfl zh (by rfl)) (aA rfl) ?_))
    refine mU (by rfl) (by first | exact ResX.tmp _ _ zx | exact ResX.cellA _ _ _ _ _ _ _ rfl rfl rfl zy rfl | exact ResX.cell1 _ _ _ _ _ _ rfl rfl rfl zx) (by first | exact ResX.tmp _ _ zx | exact ResX.cellA _ _ _ _ _ _ _ rfl rfl rfl zy rfl | exact ResX.cell1 _ _ _ _ _ _ rfl rfl rfl zx) ?_
    simp only [nextV, hl, hd, hn]
    rfl
   ·have hn2 : numD (s.extract 0 (pre digitB s)) = .tup [.int (numTo (s.extract 0 (pre digitB s)) (s.extract 0 (pre digitB s)).size), .bool true] := by simp only [numD, hn, if_true]
    repeat' (first | refine kQ (iC _) hE ?_ | refine kQ (iI _) hE ?_ | refine kQ (iU s 295 digitB hs iI) hE ?_ | (apply aF; refine bP (xL (s.extract 0 (pre digitB s)) zb) hE ?_; rw [hn2]; rintro _ rfl) | refine qm ?_ | refine va ?_ | refine vb ?_ | refine xj ?_ | (refine sQ ?_ ?_ <;> intro hb hq <;> try omega) | (apply aB (.load _ _); first | refine aK (eP rfl rfl rfl) (aA rfl) ?_ | refine aK (bZ rfl rfl (dJ rfl rfl) rfl) (aA rfl) ?_ | refine aK (bZ rfl rfl rfl rfl) (aA rfl) ?_ | refine aK (dA rfl rfl rfl rfl) (aA rfl) ?_ | refine aK (dB rfl rfl rfl zy rfl) (aA rfl) ?_ | refine aK (gB hE zc rfl rfl) (aA rfl) ?_) | (apply aB (.alloc _); refine aD (eI rfl zy rfl (aA rfl) rfl) rfl ?_) | (apply aB (.store _ _ _); first | refine aD (aN rfl rfl (dR rfl) nofun zy zl (.inl ⟨rfl, rfl⟩) rfl (aC rfl) zy) rfl ?_ | refine aD (aN rfl rfl (dR rfl) nofun zy zl (.inr rfl) rfl (aC rfl) zy) rfl ?_ | refine aD (aN rfl rfl (dM rfl) nofun zy zl (.inl ⟨rfl, rfl⟩) rfl (aC rfl) zy) rfl ?_ | refine aD (aN rfl rfl (hU rfl) nofun zy zl (.inl ⟨rfl, rfl⟩) rfl (aC rfl) zy) rfl ?_) | (apply aB (.build _ _); first | refine aK (eH rfl zd zi) (aA rfl) ?_ | refine aK (fE rfl zh (by rfl) (by rfl)) (aA rfl) ?_ | refine aK (fF rfl zh (by rfl)) (aA rfl) ?_))
    refine mU (by rfl) (by first | exact ResX.tmp _ _ zx | exact ResX.cellA _ _ _ _ _ _ _ rfl rfl rfl zy rfl | exact ResX.cell1 _ _ _ _ _ _ rfl rfl rfl zx) (by first | exact ResX.tmp _ _ zx | exact ResX.cellA _ _ _ _ _ _ _ rfl rfl rfl zy rfl | exact ResX.cell1 _ _ _ _ _ _ rfl rfl rfl zx) ?_
    simp only [nextV, hl, hd, hn, hz2]
    rfl
 ·cases hw : wordB (s.extract 0 (pre alnumB s))
  ·have hw1 : (!wordB (s.extract 0 (pre alnumB s))) = true := by simp [hw]
   repeat' (first | refine kQ (iC _) hE ?_ | refine kQ (iU s 294 alnumB hs aAd) hE ?_ | refine kQ (tE (s.extract 0 (pre alnumB s)) zb) hE ?_ | refine qm ?_ | refine va ?_ | refine vb ?_ | refine xj ?_ | (refine sQ ?_ ?_ <;> intro hb hq <;> try omega) | (apply aB (.load _ _); first | refine aK (eP rfl rfl rfl) (aA rfl) ?_ | refine aK (bZ rfl rfl (dJ rfl rfl) rfl) (aA rfl) ?_ | refine aK (bZ rfl rfl rfl rfl) (aA rfl) ?_ | refine aK (dA rfl rfl rfl rfl) (aA rfl) ?_ | refine aK (dB rfl rfl rfl zy rfl) (aA rfl) ?_ | refine aK (gB hE zc rfl rfl) (aA rfl) ?_) | (apply aB (.alloc _); refine aD (eI rfl zy rfl (aA rfl) rfl) rfl ?_) | (apply aB (.store _ _ _); first | refine aD (aN rfl rfl (dR rfl) nofun zy zl (.inl ⟨rfl, rfl⟩) rfl (aC rfl) zy) rfl ?_ | refine aD (aN rfl rfl (dR rfl) nofun zy zl (.inr rfl) rfl (aC rfl) zy) rfl ?_ | refine aD (aN rfl rfl (dM rfl) nofun zy zl (.inl ⟨rfl, rfl⟩) rfl (aC rfl) zy) rfl ?_ | refine aD (aN rfl rfl (hU rfl) nofun zy zl (.inl ⟨rfl, rfl⟩) rfl (aC rfl) zy) rfl ?_) | (apply aB (.build _ _); first | refine aK (eH rfl zd zi) (aA rfl) ?_ | refine aK (fE rfl zh (by rfl) (by rfl)) (aA rfl) ?_ | refine aK (fF rfl zh (by rfl)) (aA rfl) ?_))
   refine mU (by rfl) (by first | exact ResX.tmp _ _ zx | exact ResX.cellA _ _ _ _ _ _ _ rfl rfl rfl zy rfl | exact ResX.cell1 _ _ _ _ _ _ rfl rfl rfl zx) (by first | exact ResX.tmp _ _ zx | exact ResX.cellA _ _ _ _ _ _ _ rfl rfl rfl zy rfl | exact ResX.cell1 _ _ _ _ _ _ rfl rfl rfl zx) ?_
   simp only [nextV, hl, hw]
   rfl
  ·have hw1 : (!wordB (s.extract 0 (pre alnumB s))) = false := by simp [hw]
   repeat' (first | refine kQ (iC _) hE ?_ | refine kQ (iU s 294 alnumB hs aAd) hE ?_ | refine kQ (tE (s.extract 0 (pre alnumB s)) zb) hE ?_ | refine qm ?_ | refine va ?_ | refine vb ?_ | refine xj ?_ | (refine sQ ?_ ?_ <;> intro hb hq <;> try omega) | (apply aB (.load _ _); first | refine aK (eP rfl rfl rfl) (aA rfl) ?_ | refine aK (bZ rfl rfl (dJ rfl rfl) rfl) (aA rfl) ?_ | refine aK (bZ rfl rfl rfl rfl) (aA rfl) ?_ | refine aK (dA rfl rfl rfl rfl) (aA rfl) ?_ | refine aK (dB rfl rfl rfl zy rfl) (aA rfl) ?_ | refine aK (gB hE zc rfl rfl) (aA rfl) ?_) | (apply aB (.alloc _); refine aD (eI rfl zy rfl (aA rfl) rfl) rfl ?_) | (apply aB (.store _ _ _); first | refine aD (aN rfl rfl (dR rfl) nofun zy zl (.inl ⟨rfl, rfl⟩) rfl (aC rfl) zy) rfl ?_ | refine aD (aN rfl rfl (dR rfl) nofun zy zl (.inr rfl) rfl (aC rfl) zy) rfl ?_ | refine aD (aN rfl rfl (dM rfl) nofun zy zl (.inl ⟨rfl, rfl⟩) rfl (aC rfl) zy) rfl ?_ | refine aD (aN rfl rfl (hU rfl) nofun zy zl (.inl ⟨rfl, rfl⟩) rfl (aC rfl) zy) rfl ?_) | (apply aB (.build _ _); first | refine aK (eH rfl zd zi) (aA rfl) ?_ | refine aK (fE rfl zh (by rfl) (by rfl)) (aA rfl) ?_ | refine aK (fF rfl zh (by rfl)) (aA rfl) ?_))
   refine mU (by rfl) (by first | exact ResX.tmp _ _ zx | exact ResX.cellA _ _ _ _ _ _ _ rfl rfl rfl zy rfl | exact ResX.cell1 _ _ _ _ _ _ rfl rfl rfl zx) (by first | exact ResX.tmp _ _ zx | exact ResX.cellA _ _ _ _ _ _ _ rfl rfl rfl zy rfl | exact ResX.cell1 _ _ _ _ _ _ rfl rfl rfl zx) ?_
   simp only [nextV, hl, hw]
   rfl
end Go.Proofs.YtaodngiigdbgeaaGreatDoor
end
