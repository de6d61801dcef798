/-
  What functions of the library return: laid by the kit's own command. Conditions: those of each theorem.
  What the library's functions do, as pure calls; numbers as text. Conditions: none.
  The walks of package wire: what a reader reads. Conditions: none.
  The walks of package wire: strings and lists that a reader reads. Conditions: none.
-/
import Derived.Shelf.Small.Strs
import Derived.Shelf.Small.Wraps
import Derived.Shelf.Strconv.Itoa3
import Derived.Shelf.Strconv.AtoiAll
import Derived.Test.YtfgibalcdjlnhaaGreatDoorProg
import Derived.Lib.AppendIntMem
import Derived.Test.YtfgibalcdjlnhaaGreatDoorMal
section
namespace Go.Proofs
def Tryz.lays137_ren : Go.Shelf.Ren := ⟨fun | 137 => 85 | 217 => 90 | 266 => 96 | n => n, fun | 9 => 9 | 5 => 5 | 3 => 3 | n => n, fun | n => n⟩
theorem Tryz.lays137 : Go.Proofs.Lays.n137 Tryz.prog Tryz.lays137_ren := {
  mixed := by kernel_rfl
  f137 := Tryz.func85.trans (congrArg some (by kernel_rfl))
  f217 := Tryz.func90.trans (congrArg some (by kernel_rfl))
  f266 := Tryz.func96.trans (congrArg some (by kernel_rfl))
  t3 := Tryz.underlying3
  a3 := Tryz.isAgg3
  z3 := Tryz.sizeOf3
  v3 := Tryz.zeroValue3
  t5 := Tryz.underlying5
  a5 := Tryz.isAgg5
  z5 := Tryz.sizeOf5
  v5 := Tryz.zeroValue5
  t9 := Tryz.underlying9
  a9 := Tryz.isAgg9
  z9 := Tryz.sizeOf9
  v9 := Tryz.zeroValue9 }
open Go.RowKit in
/-- strings.IndexByte: "IndexByte returns the index of the first instance of c in s, or -1 if c is not present in s.": IT RETURNS 'Lib.indexByte s c'; the world is as it was. (LAID: no walk: one application.) -/
theorem Tryz.strings_IndexByte (s : ByteArray) (c : Int) (w : World) :
    Calls Tryz.prog 85 #[.string s, .int .u8 c] w fun e w' => e = .returned (.int .i64 (Lib.indexByte s.data.toList c.toNat.toUInt8)) ∧ w' = w := Any.strings_IndexByte Tryz.lays137 s c w
def Tryz.lays103_ren : Go.Shelf.Ren := ⟨fun | 103 => 87 | 210 => 93 | 206 => 102 | n => n, fun | 9 => 9 | 4 => 4 | 24 => 115 | 3 => 3 | n => n, fun | n => n⟩
theorem Tryz.lays103 : Go.Proofs.Lays.n103 Tryz.prog Tryz.lays103_ren := {
  mixed := by kernel_rfl
  f103 := Tryz.func87.trans (congrArg some (by kernel_rfl))
  f206 := Tryz.func102.trans (congrArg some (by kernel_rfl))
  f210 := Tryz.func93.trans (congrArg some (by kernel_rfl))
  t3 := Tryz.underlying3
  a3 := Tryz.isAgg3
  z3 := Tryz.sizeOf3
  v3 := Tryz.zeroValue3
  t4 := Tryz.underlying4
  a4 := Tryz.isAgg4
  z4 := Tryz.sizeOf4
  v4 := Tryz.zeroValue4
  t9 := Tryz.underlying9
  a9 := Tryz.isAgg9
  z9 := Tryz.sizeOf9
  v9 := Tryz.zeroValue9
  t24 := Tryz.underlying115
  a24 := Tryz.isAgg115
  z24 := Tryz.sizeOf115
  v24 := Tryz.zeroValue115 }
open Go.RowKit in
/-- strings.CutPrefix: "CutPrefix returns s without the provided leading prefix string and reports whether it found the prefix. If s doesn't start with prefix, CutPrefix returns s, false. If prefix is the empty string, CutPrefix returns s, true.": IT RETURNS '(Lib.trimPrefix s p, Lib.hasPrefix s p)'; the world is as it was. (LAID: no walk: one application.) -/
theorem Tryz.strings_CutPrefix (s p : ByteArray) (w : World) :
    Calls Tryz.prog 87 #[.string s, .string p] w fun e w' => e = .returned (.tuple #[.string ⟨(Lib.trimPrefix s.data.toList p.data.toList).toArray⟩, .bool (Lib.hasPrefix s.data.toList p.data.toList)]) ∧ w' = w := Any.strings_CutPrefix Tryz.lays103 s p w
def Tryz.laysM171_ren : Go.Shelf.Ren := ⟨fun | 171 => 79 | 243 => 89 | 246 => 95 | 283 => 103 | 284 => 104 | 285 => 105 | 286 => 106 | 129 => 111 | 317 => 110 | 318 => 112 | 319 => 113 | 320 => 114 | 337 => 117 | 338 => 118 | n => n, fun | 3 => 3 | 9 => 9 | 2 => 2 | 4 => 4 | 171 => 128 | 0 => 0 | 53 => 129 | 37 => 96 | 5 => 5 | 173 => 132 | 212 => 141 | 51 => 142 | 20 => 20 | 213 => 143 | 46 => 136 | 232 => 153 | 233 => 154 | n => n, fun | 17 => 3 | 18 => 4 | 19 => 5 | n => n⟩
theorem Tryz.laysM171 : Go.Proofs.LaysM.n171 Tryz.prog Tryz.laysM171_ren := {
  mixed := by kernel_rfl
  f129 := Tryz.func111.trans (congrArg some (by kernel_rfl))
  f171 := Tryz.func79.trans (congrArg some (by kernel_rfl))
  f243 := Tryz.func89.trans (congrArg some (by kernel_rfl))
  f246 := Tryz.func95.trans (congrArg some (by kernel_rfl))
  f283 := Tryz.func103.trans (congrArg some (by kernel_rfl))
  f284 := Tryz.func104.trans (congrArg some (by kernel_rfl))
  f285 := Tryz.func105.trans (congrArg some (by kernel_rfl))
  f286 := Tryz.func106.trans (congrArg some (by kernel_rfl))
  f317 := Tryz.func110.trans (congrArg some (by kernel_rfl))
  f318 := Tryz.func112.trans (congrArg some (by kernel_rfl))
  f319 := Tryz.func113.trans (congrArg some (by kernel_rfl))
  f320 := Tryz.func114.trans (congrArg some (by kernel_rfl))
  f337 := Tryz.func117.trans (congrArg some (by kernel_rfl))
  f338 := Tryz.func118.trans (congrArg some (by kernel_rfl))
  t0 := Tryz.underlying0
  a0 := Tryz.isAgg0
  z0 := Tryz.sizeOf0
  v0 := Tryz.zeroValue0
  t2 := Tryz.underlying2
  a2 := Tryz.isAgg2
  z2 := Tryz.sizeOf2
  v2 := Tryz.zeroValue2
  t3 := Tryz.underlying3
  a3 := Tryz.isAgg3
  z3 := Tryz.sizeOf3
  v3 := Tryz.zeroValue3
  t4 := Tryz.underlying4
  a4 := Tryz.isAgg4
  z4 := Tryz.sizeOf4
  v4 := Tryz.zeroValue4
  t5 := Tryz.underlying5
  a5 := Tryz.isAgg5
  z5 := Tryz.sizeOf5
  v5 := Tryz.zeroValue5
  t9 := Tryz.underlying9
  a9 := Tryz.isAgg9
  z9 := Tryz.sizeOf9
  v9 := Tryz.zeroValue9
  t20 := Tryz.underlying20
  a20 := Tryz.isAgg20
  z20 := Tryz.sizeOf20
  v20 := Tryz.zeroValue20
  t37 := Tryz.underlying96
  a37 := Tryz.isAgg96
  z37 := Tryz.sizeOf96
  v37 := Tryz.zeroValue96
  t46 := Tryz.underlying136
  a46 := Tryz.isAgg136
  z46 := Tryz.sizeOf136
  v46 := Tryz.zeroValue136
  t51 := Tryz.underlying142
  a51 := Tryz.isAgg142
  z51 := Tryz.sizeOf142
  v51 := Tryz.zeroValue142
  t53 := Tryz.underlying129
  a53 := Tryz.isAgg129
  z53 := Tryz.sizeOf129
  v53 := Tryz.zeroValue129
  t171 := Tryz.underlying128
  a171 := Tryz.isAgg128
  z171 := Tryz.sizeOf128
  v171 := Tryz.zeroValue128
  t173 := Tryz.underlying132
  a173 := Tryz.isAgg132
  z173 := Tryz.sizeOf132
  v173 := Tryz.zeroValue132
  t212 := Tryz.underlying141
  a212 := Tryz.isAgg141
  z212 := Tryz.sizeOf141
  v212 := Tryz.zeroValue141
  t213 := Tryz.underlying143
  a213 := Tryz.isAgg143
  z213 := Tryz.sizeOf143
  t232 := Tryz.underlying153
  a232 := Tryz.isAgg153
  z232 := Tryz.sizeOf153
  v232 := Tryz.zeroValue153
  t233 := Tryz.underlying154
  a233 := Tryz.isAgg154
  z233 := Tryz.sizeOf154
  v233 := Tryz.zeroValue154
  g17 := by kernel_rfl
  g18 := by kernel_rfl
  g19 := by kernel_rfl
  i0 := by kernel_rfl
  i2 := by kernel_rfl
  i3 := by kernel_rfl
  i4 := by kernel_rfl
  i5 := by kernel_rfl
  i9 := by kernel_rfl
  i20 := by kernel_rfl
  i37 := by kernel_rfl
  i46 := by kernel_rfl
  i51 := by kernel_rfl
  i53 := by kernel_rfl
  i171 := by kernel_rfl
  i173 := by kernel_rfl
  i212 := by kernel_rfl
  i232 := by kernel_rfl
  i233 := by kernel_rfl
  m17 := by kernel_rfl
  m18 := by kernel_rfl
  m19 := by kernel_rfl }
open Go.RowKit Go.Sort Go.Lib in
/-- strconv.Itoa: "Itoa is equivalent to FormatInt(int64(i), 10).": i's DECIMAL NUMERAL ('Lib.itoa': a '-' where i is negative, then the digits), FOR EVERY int. The world behind the call: the world before it, new blocks behind the heap (the library's 'var a [24]byte'), draws. (LAID: no walk: one application.) -/
theorem Tryz.strconv_Itoa (n : Int) (h0 : -9223372036854775808 ≤ n) (h1 : n ≤ 9223372036854775807) (w : World) (htab : Lib.TabIs Tryz.prog w "internal/strconv.uint64pow10" .u64 Lib.pow10Tab) :
    Calls Tryz.prog 79 #[.int .i64 n] w fun e w' => e = .returned (.string ⟨(Lib.itoa n).toArray⟩) ∧ ∃ k os, w' = grow (w.drewN k) os := Any.strconv_Itoa Tryz.laysM171 n h0 h1 w htab
def Tryz.laysC172_ren : Go.Shelf.Ren := ⟨fun | 172 => 86 | 244 => 91 | 245 => 92 | 247 => 97 | 279 => 98 | 280 => 99 | 281 => 100 | 282 => 101 | 287 => 107 | 316 => 108 | 171 => 79 | 205 => 109 | 321 => 115 | 322 => 116 | 243 => 89 | 246 => 95 | 283 => 103 | 284 => 104 | 285 => 105 | 286 => 106 | 129 => 111 | 317 => 110 | 318 => 112 | 319 => 113 | 320 => 114 | 337 => 117 | 338 => 118 | n => n, fun | 9 => 9 | 3 => 3 | 75 => 112 | 76 => 113 | 4 => 4 | 5 => 5 | 167 => 121 | 37 => 96 | 0 => 0 | 85 => 122 | 2 => 2 | 168 => 124 | 53 => 129 | 175 => 134 | 46 => 136 | 210 => 138 | 127 => 148 | 145 => 151 | 143 => 149 | 21 => 21 | 171 => 128 | 173 => 132 | 212 => 141 | 51 => 142 | 20 => 20 | 213 => 143 | 232 => 153 | 233 => 154 | 80 => 89 | n => n, fun | 15 => 1 | 16 => 2 | 17 => 3 | 18 => 4 | 19 => 5 | n => n⟩
theorem Tryz.laysC172 : Go.Proofs.LaysC.n172 Tryz.prog Tryz.laysC172_ren := {
  mixed := by kernel_rfl
  f129 := Tryz.func111.trans (congrArg some (by kernel_rfl))
  f171 := Tryz.func79.trans (congrArg some (by kernel_rfl))
  f172 := Tryz.func86.trans (congrArg some (by kernel_rfl))
  f205 := Tryz.func109.trans (congrArg some (by kernel_rfl))
  f243 := Tryz.func89.trans (congrArg some (by kernel_rfl))
  f244 := Tryz.func91.trans (congrArg some (by kernel_rfl))
  f245 := Tryz.func92.trans (congrArg some (by kernel_rfl))
  f246 := Tryz.func95.trans (congrArg some (by kernel_rfl))
  f247 := Tryz.func97.trans (congrArg some (by kernel_rfl))
  f279 := Tryz.func98.trans (congrArg some (by kernel_rfl))
  f280 := Tryz.func99.trans (congrArg some (by kernel_rfl))
  f281 := Tryz.func100.trans (congrArg some (by kernel_rfl))
  f282 := Tryz.func101.trans (congrArg some (by kernel_rfl))
  f283 := Tryz.func103.trans (congrArg some (by kernel_rfl))
  f284 := Tryz.func104.trans (congrArg some (by kernel_rfl))
  f285 := Tryz.func105.trans (congrArg some (by kernel_rfl))
  f286 := Tryz.func106.trans (congrArg some (by kernel_rfl))
  f287 := Tryz.func107.trans (congrArg some (by kernel_rfl))
  f316 := Tryz.func108.trans (congrArg some (by kernel_rfl))
  f317 := Tryz.func110.trans (congrArg some (by kernel_rfl))
  f318 := Tryz.func112.trans (congrArg some (by kernel_rfl))
  f319 := Tryz.func113.trans (congrArg some (by kernel_rfl))
  f320 := Tryz.func114.trans (congrArg some (by kernel_rfl))
  f321 := Tryz.func115.trans (congrArg some (by kernel_rfl))
  f322 := Tryz.func116.trans (congrArg some (by kernel_rfl))
  f337 := Tryz.func117.trans (congrArg some (by kernel_rfl))
  f338 := Tryz.func118.trans (congrArg some (by kernel_rfl))
  t0 := Tryz.underlying0
  a0 := Tryz.isAgg0
  z0 := Tryz.sizeOf0
  v0 := Tryz.zeroValue0
  t2 := Tryz.underlying2
  a2 := Tryz.isAgg2
  z2 := Tryz.sizeOf2
  v2 := Tryz.zeroValue2
  t3 := Tryz.underlying3
  a3 := Tryz.isAgg3
  z3 := Tryz.sizeOf3
  v3 := Tryz.zeroValue3
  t4 := Tryz.underlying4
  a4 := Tryz.isAgg4
  z4 := Tryz.sizeOf4
  v4 := Tryz.zeroValue4
  t5 := Tryz.underlying5
  a5 := Tryz.isAgg5
  z5 := Tryz.sizeOf5
  v5 := Tryz.zeroValue5
  t9 := Tryz.underlying9
  a9 := Tryz.isAgg9
  z9 := Tryz.sizeOf9
  v9 := Tryz.zeroValue9
  t20 := Tryz.underlying20
  a20 := Tryz.isAgg20
  z20 := Tryz.sizeOf20
  v20 := Tryz.zeroValue20
  t21 := Tryz.underlying21
  a21 := Tryz.isAgg21
  z21 := Tryz.sizeOf21
  v21 := Tryz.zeroValue21
  t37 := Tryz.underlying96
  a37 := Tryz.isAgg96
  z37 := Tryz.sizeOf96
  v37 := Tryz.zeroValue96
  t46 := Tryz.underlying136
  a46 := Tryz.isAgg136
  z46 := Tryz.sizeOf136
  v46 := Tryz.zeroValue136
  t51 := Tryz.underlying142
  a51 := Tryz.isAgg142
  z51 := Tryz.sizeOf142
  v51 := Tryz.zeroValue142
  t53 := Tryz.underlying129
  a53 := Tryz.isAgg129
  z53 := Tryz.sizeOf129
  v53 := Tryz.zeroValue129
  t75 := Tryz.underlying112
  a75 := Tryz.isAgg112
  z75 := Tryz.sizeOf112
  v75 := Tryz.zeroValue112
  t76 := Tryz.underlying113
  a76 := Tryz.isAgg113
  z76 := Tryz.sizeOf113
  v76 := Tryz.zeroValue113
  t85 := Tryz.underlying122
  a85 := Tryz.isAgg122
  z85 := Tryz.sizeOf122
  v85 := Tryz.zeroValue122
  t127 := Tryz.underlying148
  a127 := Tryz.isAgg148
  z127 := Tryz.sizeOf148
  v127 := Tryz.zeroValue148
  t143 := Tryz.underlying149
  a143 := Tryz.isAgg149
  z143 := Tryz.sizeOf149
  v143 := Tryz.zeroValue149
  t145 := Tryz.underlying151
  a145 := Tryz.isAgg151
  z145 := Tryz.sizeOf151
  v145 := Tryz.zeroValue151
  t167 := Tryz.underlying121
  a167 := Tryz.isAgg121
  z167 := Tryz.sizeOf121
  v167 := Tryz.zeroValue121
  t168 := Tryz.underlying124
  a168 := Tryz.isAgg124
  z168 := Tryz.sizeOf124
  v168 := Tryz.zeroValue124
  t171 := Tryz.underlying128
  a171 := Tryz.isAgg128
  z171 := Tryz.sizeOf128
  v171 := Tryz.zeroValue128
  t173 := Tryz.underlying132
  a173 := Tryz.isAgg132
  z173 := Tryz.sizeOf132
  v173 := Tryz.zeroValue132
  t175 := Tryz.underlying134
  a175 := Tryz.isAgg134
  z175 := Tryz.sizeOf134
  v175 := Tryz.zeroValue134
  t210 := Tryz.underlying138
  a210 := Tryz.isAgg138
  z210 := Tryz.sizeOf138
  v210 := Tryz.zeroValue138
  t212 := Tryz.underlying141
  a212 := Tryz.isAgg141
  z212 := Tryz.sizeOf141
  v212 := Tryz.zeroValue141
  t213 := Tryz.underlying143
  a213 := Tryz.isAgg143
  z213 := Tryz.sizeOf143
  t232 := Tryz.underlying153
  a232 := Tryz.isAgg153
  z232 := Tryz.sizeOf153
  v232 := Tryz.zeroValue153
  t233 := Tryz.underlying154
  a233 := Tryz.isAgg154
  z233 := Tryz.sizeOf154
  v233 := Tryz.zeroValue154
  g15 := by kernel_rfl
  g16 := by kernel_rfl
  g17 := by kernel_rfl
  g18 := by kernel_rfl
  g19 := by kernel_rfl
  t80 := Tryz.underlying89
  a80 := Tryz.isAgg89
  z80 := Tryz.sizeOf89
  v80 := Tryz.zeroValue89
  i0 := by kernel_rfl
  i2 := by kernel_rfl
  i3 := by kernel_rfl
  i4 := by kernel_rfl
  i5 := by kernel_rfl
  i9 := by kernel_rfl
  i20 := by kernel_rfl
  i21 := by kernel_rfl
  i37 := by kernel_rfl
  i46 := by kernel_rfl
  i51 := by kernel_rfl
  i53 := by kernel_rfl
  i75 := by kernel_rfl
  i76 := by kernel_rfl
  i80 := by kernel_rfl
  i85 := by kernel_rfl
  i127 := by kernel_rfl
  i143 := by kernel_rfl
  i145 := by kernel_rfl
  i167 := by kernel_rfl
  i168 := by kernel_rfl
  i171 := by kernel_rfl
  i173 := by kernel_rfl
  i175 := by kernel_rfl
  i210 := by kernel_rfl
  i212 := by kernel_rfl
  i232 := by kernel_rfl
  i233 := by kernel_rfl
  m15 := by kernel_rfl
  m16 := by kernel_rfl
  m17 := by kernel_rfl
  m18 := by kernel_rfl
  m19 := by kernel_rfl
  c0 := by kernel_rfl
  c2 := by kernel_rfl
  c3 := by kernel_rfl
  c4 := by kernel_rfl
  c5 := by kernel_rfl
  c9 := by kernel_rfl
  c20 := by kernel_rfl
  c21 := by kernel_rfl
  c37 := by kernel_rfl
  c46 := by kernel_rfl
  c51 := by kernel_rfl
  c53 := by kernel_rfl
  c75 := by kernel_rfl
  c76 := by kernel_rfl
  c80 := by kernel_rfl
  c85 := by kernel_rfl
  c127 := by kernel_rfl
  c143 := by kernel_rfl
  c145 := by kernel_rfl
  c167 := by kernel_rfl
  c168 := by kernel_rfl
  c171 := by kernel_rfl
  c173 := by kernel_rfl
  c175 := by kernel_rfl
  c210 := by kernel_rfl
  c212 := by kernel_rfl
  c213 := by kernel_rfl
  c232 := by kernel_rfl
  c233 := by kernel_rfl }
open Go.RowKit in
/-- strconv.Atoi, AT EVERY STRING THAT SPELLS AN int ('Lib.atoiAll .. = .ok v'; of whatever length: leading zeros count): v, AND NO ERROR. The world: as it was, or with the one new row that '[]byte(..)' lays. (LAID: no walk: one application.) -/
theorem Tryz.strconv_Atoi_ok (s : ByteArray) (hmax : s.size ≤ 9223372036854775806) (v : Int) (h : Lib.atoiAll s.data.toList = .ok v) (w : World) :
    Calls Tryz.prog 86 #[.string s] w fun e w' => e = .returned (.tuple #[.int .i64 v, .nilIface]) ∧ (w' = w ∨ ∃ t, w' = Lib.bytesWorld w 5 t) := Any.strconv_Atoi_ok Tryz.laysC172 s hmax v h w
open Go.RowKit in
theorem Tryz.strconv_Atoi_syntax (s : ByteArray) (hlim : s.size ≤ 281474976710656) (h0 : ∀ v, Lib.atoiAll s.data.toList ≠ .ok v) (h1 : Lib.atoiAll s.data.toList ≠ .range) (ev : Value) (w : World) (hv : w.cell? ⟨1, 0, none⟩ = some ev) (hev : ev = .nilIface ∨ ∃ te pe, ev = .iface te pe) :
    Calls Tryz.prog 86 #[.string s] w fun e w' => ∃ N, e = .returned (.tuple #[.int .i64 (0), .iface 124 (.pointer (some ⟨N, 0, none⟩))]) ∧ w.heap.size ≤ N ∧ w'.heap[N]? = some (.cells #[.string ⟨#[65, 116, 111, 105]⟩, .string s, ev] 138 (0, 0)) ∧ Below w.heap.size w w' := by
  cases h : Lib.atoiAll s.data.toList with
  | ok v => exact absurd h (h0 v)
  | range => exact absurd h h1
  | _ => exact Any.strconv_Atoi_syntax Tryz.laysC172 s hlim h ev w hv hev
open Go.RowKit in
/-- strconv.Atoi, AT EVERY NUMERAL THAT NO int HOLDS ('.range'): THE GREATEST OR THE LEAST int, BY THE SIGN ('Lib.atoiSat'), AND AN ERROR THAT IS NOT nil: a *NumError in a new block N: {Func: "Atoi", Num: s's bytes, Err: what the variable ErrRange holds}. Of what was there nothing has turned. (LAID: no walk: one application.) -/
theorem Tryz.strconv_Atoi_range (s : ByteArray) (hlim : s.size ≤ 281474976710656) (h : Lib.atoiAll s.data.toList = .range) (ev : Value) (w : World) (hv : w.cell? ⟨2, 0, none⟩ = some ev) (hev : ev = .nilIface ∨ ∃ te pe, ev = .iface te pe) :
    Calls Tryz.prog 86 #[.string s] w fun e w' => ∃ N, e = .returned (.tuple #[.int .i64 (Lib.atoiSat s.data.toList), .iface 124 (.pointer (some ⟨N, 0, none⟩))]) ∧ w.heap.size ≤ N ∧ w'.heap[N]? = some (.cells #[.string ⟨#[65, 116, 111, 105]⟩, .string s, ev] 138 (0, 0)) ∧ Below w.heap.size w w' := Any.strconv_Atoi_range Tryz.laysC172 s hlim h ev w hv hev
end Go.Proofs
end
section
namespace Go.Proofs.YtfgibalcdjlnhaaGreatDoor
open Go.RowKit


theorem repD_val {w : World} {Pr : Prot} {u v : Value} (h : RepD w Pr v (.val u)) : v = u := by
  cases h
  rfl
theorem pure_vals {f : FuncId} {us : List Value} {Post : D → Prop} (hf : FnOk f) (h : ∀ w Pr, (∀ b o, Pr b o → b < w.heap.size) → EnvOk w Pr → Calls Tryz.prog f us.toArray w (PostR w Pr Post)) : PureC f (us.map D.val) Post := by
  refine ⟨hf, fun w Pr vs h1 h2 h3 h4 => ?_⟩
  have e : vs = us := by
    apply List.ext_getElem?
    intro i
    have hl : vs.length = us.length := by simpa using h3
    by_cases hi : i < vs.length
    · have := h4 i vs[i] (.val us[i]) (List.getElem?_eq_getElem hi) (by simp [List.getElem?_eq_getElem (show i < us.length by omega)])
      rw [List.getElem?_eq_getElem hi, List.getElem?_eq_getElem (by omega), repD_val this]
    · rw [List.getElem?_eq_none (by omega), List.getElem?_eq_none (by omega)]
  subst e
  exact h w Pr h1 h2
def itoaB (n : Int) : ByteArray := ⟨(Lib.itoa n).toArray⟩
theorem itoa_any (n : Int) (h0 : -9223372036854775808 ≤ n) (h1 : n ≤ 9223372036854775807) : PureC 79 [.int n] (· = .str (itoaB n)) := by
  refine pure_vals (us := [.int .i64 n]) ⟨_, Tryz.func79, by decide, rfl⟩ (fun w Pr _ hE => ?_)
  have ht : Lib.TabIs Tryz.prog w "internal/strconv.uint64pow10" .u64 Lib.pow10Tab := tab_of hE (by unfold laidG; exact List.mem_cons_self) (by kernel_rfl) (by decide)
  refine (Tryz.strconv_Itoa n h0 h1 w ht).mono fun e w' ⟨he, k, os, hw⟩ => ?_
  subst hw
  exact ⟨_, _, he, rfl, .val _, Lib.below_grow _ _ (Nat.le_refl _) k os⟩
theorem indexbyte_any (s : ByteArray) (c : Int) : PureC 85 [.str s, .val (.int .u8 c)] (· = .int (Lib.indexByte s.data.toList c.toNat.toUInt8)) := by
  refine pure_vals (us := [.string s, .int .u8 c]) ⟨_, Tryz.func85, by decide, rfl⟩ (fun w Pr _ _ => ?_)
  refine (Tryz.strings_IndexByte s c w).mono fun e w' ⟨he, hw⟩ => ?_
  subst hw
  exact ⟨_, _, he, rfl, .val _, Below.refl _ _⟩
theorem rep_two {w : World} {Pr : Prot} {u v : Value} {x y : D} (hu : RepD w Pr u x) (hv : RepD w Pr v y) : RepD w Pr (.tuple #[u, v]) (.tup [x, y]) := by
  refine .tup [u, v] _ rfl (fun i v d h1 h2 => ?_)
  match i with
  | 0 => cases h1; cases h2; exact hu
  | 1 => cases h1; cases h2; exact hv
theorem cutprefix_any (s p : ByteArray) : PureC 87 [.str s, .str p] (· = .tup [.str ⟨(Lib.trimPrefix s.data.toList p.data.toList).toArray⟩, .bool (Lib.hasPrefix s.data.toList p.data.toList)]) := by
  refine pure_vals (us := [.string s, .string p]) ⟨_, Tryz.func87, by decide, rfl⟩ (fun w Pr _ _ => ?_)
  refine (Tryz.strings_CutPrefix s p w).mono fun e w' ⟨he, hw⟩ => ?_
  subst hw
  exact ⟨_, _, he, rfl, rep_two (.val _) (.val _), Below.refl _ _⟩
/-- Atoi: the number and no error, or some number and an error -/
def AtoiD (s : ByteArray) (r : D) : Prop := match Lib.atoiAll s.data.toList with
  | .ok v => r = .tup [.int v, .val .nilIface]
  | _ => ∃ n, r = .tup [.int n, .err]
theorem err_var {w : World} {Pr : Prot} (hE : EnvOk w Pr) {g : Nat} (hm : (g, [D.err]) ∈ laidG) : ∃ ev, w.cell? ⟨g, 0, none⟩ = some ev ∧ (ev = .nilIface ∨ ∃ te pe, ev = .iface te pe) := by
  obtain ⟨u, h1, _, h3⟩ := (hE g _ hm).1 0 .err rfl
  cases h3
  exact ⟨_, h1, .inr ⟨_, _, rfl⟩⟩
theorem atoi_any (s : ByteArray) (hs : s.size ≤ 281474976710656) : PureC 86 [.str s] (AtoiD s) := by
  refine pure_vals (us := [.string s]) ⟨_, Tryz.func86, by decide, rfl⟩ (fun w Pr _ hE => ?_)
  cases h : Lib.atoiAll s.data.toList with
  | ok v =>
    refine (Tryz.strconv_Atoi_ok s (by omega) v h w).mono fun e w' ⟨he, hw⟩ => ?_
    refine ⟨_, _, he, by unfold AtoiD; rw [h], rep_two (.val _) (.val _), ?_⟩
    rcases hw with rfl | ⟨t, rfl⟩
    · exact Below.refl _ _
    · exact Lib.bytesWorld_below _ _ _
  | range =>
    obtain ⟨ev, h1, h2⟩ := err_var hE (g := 2) (by unfold laidG; exact List.mem_cons_of_mem _ (List.mem_cons_of_mem _ List.mem_cons_self))
    refine (Tryz.strconv_Atoi_range s hs h ev w h1 h2).mono fun e w' ⟨N, he, _, _, hb⟩ => ?_
    exact ⟨_, _, he, by unfold AtoiD; rw [h]; exact ⟨_, rfl⟩, rep_two (.val _) (.err _ _), hb⟩
  | _ =>
    obtain ⟨ev, h1, h2⟩ := err_var hE (g := 1) (by unfold laidG; exact List.mem_cons_of_mem _ List.mem_cons_self)
    refine (Tryz.strconv_Atoi_syntax s hs (fun v hv => by rw [hv] at h; cases h) (fun hv => by rw [hv] at h; cases h) ev w h1 h2).mono fun e w' ⟨N, he, _, _, hb⟩ => ?_
    exact ⟨_, _, he, by unfold AtoiD; rw [h]; exact ⟨_, rfl⟩, rep_two (.val _) (.err _ _), hb⟩
theorem errT : ∃ ms, Tryz.prog.underlying 112 = some (.interface ms) := ⟨_, Tryz.underlying112⟩
section
variable {E : Entry} {sl : Slots} {ob : Objs} {d : Option Nat} {t ty T : TypeId} {p : String} {af : Array Edge} {g : Option (Nat × Bool)} {x : Operand}
theorem y_errneq (hx : ev sl x = .d .err) (ht : ∃ ms, Tryz.prog.underlying t = some (.interface ms)) : Y E ⟨d, .binOp .neq t x (.const .nilIface) ty, T, p, af, g⟩ sl ob (.d (.val (.bool true))) := fun a w Pr β κ h => by
  have hv := good_rep h hx
  generalize hav : a.eval x = v at hv
  cases hv with
  | err te u =>
    obtain ⟨ms, ht⟩ := ht
    have hc : a.eval (.const Value.nilIface) = Value.nilIface := rfl
    refine ⟨_, .d _ _ (.val _), fun w' _ => ?_⟩
    have h1 : (Op.equalIn Op.maxDepth t (.iface te u) .nilIface).run Tryz.prog w' = .ok false w' := by
      have : ∀ d : Nat, (Op.equalIn (d + 1) t (.iface te u) .nilIface).run Tryz.prog w' = .ok false w' := fun d => by simp [Op.equalIn, run_underlying ht]
      exact this 9999
    simp [execOp, hav, hc, eqGuard_at_iface, binOp, Op.equal, h1]
theorem y_nilneq (hx : ev sl x = .d (.val .nilIface)) (ht : ∃ ms, Tryz.prog.underlying t = some (.interface ms)) : Y E ⟨d, .binOp .neq t x (.const .nilIface) ty, T, p, af, g⟩ sl ob (.d (.val (.bool false))) := fun a w Pr β κ h => by
  obtain ⟨ms, ht⟩ := ht
  have hc : a.eval (.const Value.nilIface) = Value.nilIface := rfl
  refine ⟨_, .d _ _ (.val _), fun w' _ => ?_⟩
  have h1 : (Op.equalIn Op.maxDepth t .nilIface .nilIface).run Tryz.prog w' = .ok true w' := by
    have : ∀ d : Nat, (Op.equalIn (d + 1) t .nilIface .nilIface).run Tryz.prog w' = .ok true w' := fun d => by simp [Op.equalIn, run_underlying ht]
    exact this 9999
  simp [execOp, good_val h hx, hc, eqGuard_nil_constR, binOp, Op.equal, h1]
end
end Go.Proofs.YtfgibalcdjlnhaaGreatDoor
end
section
set_option linter.unusedSimpArgs false
set_option linter.unusedVariables false
namespace Go.Proofs.YtfgibalcdjlnhaaGreatDoor
open Go.RowKit


/-- a reader: what is left, and whether it has failed -/
abbrev rd (r : ByteArray) (b : Bool) : Objs := [(1000, .box 103 [.d (.str r), .d (.bool b)])]
def emp : ByteArray := ⟨#[]⟩
theorem fail_any (r : ByteArray) (b : Bool) : ObC 74 [.box 1000 0] (rd r b) [] (fun x o => x = .tup [] ∧ o = rd emp true) := by
  refine ob_enter Tryz.func74 rfl (by decide) _ Tryz.ntmps74 (le_ok rfl) rfl (fun w Pr β κ hE => ?_)
  dsimp only [slotsV, Nat.zero_add, Nat.reduceAdd]
  repeat' (first | refine nx ?_ | (apply qr_move; refine r_move ?_) | (apply qr_faddr; refine r_faddr ?_) | (apply qr_nilck; refine r_nilck ?_) | (apply qr_store; refine r_store ?_))
  try refine aq_end ?_
  refine oret0 (rd emp true) (by rfl) (⟨rfl, rfl⟩) sb okx
theorem open_any (s : ByteArray) : ObC 52 [.d (.str s)] [] [5] (fun x o => x = .box 5 0 ∧ o = [(5, .box 103 [.d (.str s), .d (.bool false)])]) := by
  refine ob_enter Tryz.func52 rfl (by decide) _ Tryz.ntmps52 (le_ok rfl) rfl (fun w Pr β κ hE => ?_)
  dsimp only [slotsV, Nat.zero_add, Nat.reduceAdd]
  repeat' (first | refine nx ?_ | (apply qr_move; refine r_move ?_) | (apply qr_assign; refine r_assign ?_) | (apply qr_boxed; refine r_boxed ?_) | (apply qr_build; refine r_build ?_))
  refine oret1 ([(5, .box 103 [.d (.str s), .d (.bool false)])]) (by rfl) rv (⟨rfl, rfl⟩) sb okx
/-- an int, at least as great as a limit, and the byte after it -/
def headV (r : ByteArray) : ByteArray := r.extract 0 (min r.size 21)
def atV (r : ByteArray) (c : UInt8) : Int := Lib.indexByte (headV r).data.toList c
abbrev numV (r : ByteArray) (c : UInt8) : ByteArray := (headV r).extract 0 (atV r c).toNat
def numIs (r : ByteArray) (c : UInt8) (least n : Int) : Prop := 0 ≤ atV r c ∧ Lib.atoiAll (numV r c).data.toList = .ok n ∧ itoaB n = numV r c ∧ least ≤ n
def behind (r : ByteArray) (c : UInt8) : ByteArray := r.extract (atV r c + 1).toNat r.size
def NumP (r : ByteArray) (b : Bool) (c : UInt8) (least : Int) (x : V) (o : Objs) : Prop :=
  (∃ n, numIs r c least n ∧ x = .d (.int n) ∧ o = rd (behind r c) b) ∨ ((∀ n, ¬ numIs r c least n) ∧ x = .d (.int 0) ∧ o = rd emp true)
theorem indexByte_lt (l : List UInt8) (c : UInt8) : -1 ≤ Lib.indexByte l c ∧ Lib.indexByte l c < l.length := by
  induction l with
  | nil => simp [Lib.indexByte]
  | cons b l ih =>
    simp only [Lib.indexByte, List.length_cons]
    split
    · omega
    · split
      · omega
      · omega
theorem headV_size (r : ByteArray) : (headV r).size = min r.size 21 := by simp [headV]
theorem atV_bd (r : ByteArray) (c : UInt8) : -1 ≤ atV r c ∧ atV r c < min r.size 21 := by
  have h1 := indexByte_lt (headV r).data.toList c
  have h2 := headV_size r
  unfold atV
  have h3 : (headV r).data.toList.length = (headV r).size := by simp
  omega
theorem atoiAll_bd {l : List UInt8} {n : Int} (h : Lib.atoiAll l = .ok n) : -9223372036854775808 ≤ n ∧ n ≤ 9223372036854775807 := by
  unfold Lib.atoiAll at h
  split at h
  · cases h
  · dsimp only at h
    split at h
    · cases h
    · cases h
    · split at h
      · cases h
      · split at h
        · cases h
        · rename_i h1 h2
          injection h with h
          subst h
          split <;> rename_i h3
          · simp only [h3, true_and] at h2
            omega
          · simp only [h3, not_false_eq_true, true_and] at h1
            omega
theorem emp_size : ByteArray.size emp = 0 := rfl
attribute [local irreducible] headV atV itoaB Lib.atoiAll behind
set_option maxHeartbeats 2000000 in
theorem number_any (r : ByteArray) (b : Bool) (c : UInt8) (least : Int) (hr : r.size ≤ 1000000000) : ObC 73 [.box 1000 0, .d (.val (.int .u8 c.toNat)), .d (.int least)] (rd r b) [] (NumP r b c least) := by
  refine ob_enter Tryz.func73 rfl (by decide) _ Tryz.ntmps73 (le_ok rfl) rfl (fun w Pr β κ hE => ?_)
  dsimp only [slotsV, Nat.zero_add, Nat.reduceAdd]
  repeat' (first | refine nx ?_ | (apply qr_move; refine r_move ?_) | (apply qr_assign; refine r_assign ?_) | (apply at_cond; first | refine c_t ?_ | refine c_f ?_ | (refine aw_cond rfl (fun hb => ?_) (fun hb => ?_) <;> ((try have hq := dX hb); (try (exfalso; omega))))) | (apply at_guard; first | refine g_go ?_ | refine g_nt ?_ | refine g_nf ?_ | refine g_nu ?_ | ((first | refine al_split_t rfl rfl (lt_ok rfl) (fun hb => ?_) (fun hb => ?_) | refine al_split_f rfl rfl (lt_ok rfl) (fun hb => ?_) (fun hb => ?_)) <;> ((try have hq := dX hb); (try (exfalso; omega))))) | (apply qr_pick; refine r_pick ?_) | (apply qr_lss; refine r_lss ?_) | (apply qr_neq; refine r_neq ?_) | (apply qr_add; refine r_add ?_) | (apply qr_min; refine r_min ?_) | (apply qr_len; refine r_len ?_) | (apply qr_extract; refine r_extract ?_) | (apply qr_slice; refine r_slice ?_) | (apply qr_load; refine r_load ?_) | (apply qr_faddr; refine r_faddr ?_) | (apply qr_nilck; refine r_nilck ?_) | (apply qr_store; refine r_store ?_))
  refine aw_mix [(0, true), (1, true), (2, true), (3, true), (4, true), (5, true), (6, true), (7, true), (8, true), (9, true), (10, true)] [11] (by kernel_rfl) (by kernel_rfl) (by kernel_rfl) (by decide) ?_
  simp only [planned, tailed, List.filterMap_cons, List.filterMap_nil, List.getElem?_cons_zero, List.getElem?_cons_succ, Option.map_some]
  repeat' (first | apply am_nil | refine m_skip ?_ | refine n_skip ?_ | (apply qm_move; refine m_move ?_) | (apply qm_min; refine m_min ?_) | (apply qm_len; refine m_len ?_) | (apply qm_slice; refine m_slice ?_) | (apply qm_load; refine m_load ?_) | (apply qm_faddr; refine m_faddr ?_) | (apply qm_nilck; refine m_nilck ?_) | (refine am_split rfl rfl (fun hb => ?_) (fun hb => ?_) <;> ((try have hq := dX hb); (try (exfalso; omega)))))
  have hz := headV_size r
  have ha := atV_bd r c
  have e0 : r.extract 0 (min (r.size : Int) 21).toNat = headV r := by
    unfold headV
    rw [show (min (r.size : Int) 21).toNat = min r.size 21 by omega]
  have e1 : Lib.indexByte (headV r).data.toList ((c.toNat : Int).toNat.toUInt8) = atV r c := by
    unfold atV
    rw [Int.toNat_natCast]
    congr 1
    simp
  rw [e0]
  by_cases h0 : atV r c < 0
  · skip
    repeat' (first | (apply at_call; refine k_call (indexbyte_any (headV r) c.toNat) hE ?_; rintro _ rfl; rw [e1]) | (apply at_call; refine k_ocall [(1000, 1000)] (fail_any r b) hE ?_; rintro _ _ ⟨rfl, rfl⟩ <;> (intro _ _ h1 h2; simp only [renEqs, Nat.reduceBEq, renL_app, renL_ds, renL_und] at h1 h2; subst h1 h2)) | refine nx ?_ | (apply qr_move; refine r_move ?_) | (apply qr_assign; refine r_assign ?_) | (apply at_cond; first | refine c_t ?_ | refine c_f ?_ | (refine aw_cond rfl (fun hb => ?_) (fun hb => ?_) <;> ((try have hq := dX hb); (try (exfalso; omega))))) | (apply at_guard; first | refine g_go ?_ | refine g_nt ?_ | refine g_nf ?_ | refine g_nu ?_ | ((first | refine al_split_t rfl rfl (lt_ok rfl) (fun hb => ?_) (fun hb => ?_) | refine al_split_f rfl rfl (lt_ok rfl) (fun hb => ?_) (fun hb => ?_)) <;> ((try have hq := dX hb); (try (exfalso; omega))))) | (apply qr_pick; refine r_pick ?_) | (apply qr_lss; refine r_lss ?_) | (apply qr_neq; refine r_neq ?_) | (apply qr_add; refine r_add ?_) | (apply qr_min; refine r_min ?_) | (apply qr_len; refine r_len ?_) | (apply qr_extract; refine r_extract ?_) | (apply qr_slice; refine r_slice ?_) | (apply qr_load; refine r_load ?_) | (apply qr_faddr; refine r_faddr ?_) | (apply qr_nilck; refine r_nilck ?_) | (apply qr_store; refine r_store ?_))
    refine oret1 (rd emp true) (by rfl) rv (.inr ⟨fun n h => by have := h.1; omega, rfl, rfl⟩) sb okx
  · have e2z : (numV r c).size ≤ 21 := by simp only [numV, ByteArray.size_extract]; omega
    have e3 : r.extract (atV r c + 1).toNat r.size = behind r c := by unfold behind; rfl
    by_cases hok : ∃ n, Lib.atoiAll (numV r c).data.toList = .ok n
    · obtain ⟨n, hn⟩ := hok
      have hat : PureC 86 [.str (numV r c)] (· = .tup [.int n, .val .nilIface]) := (atoi_any (numV r c) (by omega)).mono fun r h => by unfold AtoiD at h; rw [hn] at h; exact h
      have hbd := atoiAll_bd hn
      have hno : (itoaB n = numV r c → ¬ least ≤ n) → ∀ m, ¬ numIs r c least m := by
        rintro h m ⟨_, h2, h3, h4⟩
        rw [hn] at h2
        injection h2 with h2
        subst h2
        exact h h3 h4
      by_cases hi : itoaB n = numV r c
      · have f1 : (!decide (itoaB n = numV r c)) = false := by simp [hi]
        by_cases hle : least ≤ n
        · skip
          repeat' (first | (apply at_call; refine k_call (indexbyte_any (headV r) c.toNat) hE ?_; rintro _ rfl; rw [e1]) | (apply at_call; refine k_call (hat) hE ?_; rintro _ rfl) | refine nx ?_ | (apply qr_move; refine r_move ?_) | (apply qr_assign; refine r_assign ?_) | (apply at_cond; first | refine c_t ?_ | refine c_f ?_ | (refine aw_cond rfl (fun hb => ?_) (fun hb => ?_) <;> ((try have hq := dX hb); (try (exfalso; omega))))) | (apply at_guard; first | refine g_go ?_ | refine g_nt ?_ | refine g_nf ?_ | refine g_nu ?_ | ((first | refine al_split_t rfl rfl (lt_ok rfl) (fun hb => ?_) (fun hb => ?_) | refine al_split_f rfl rfl (lt_ok rfl) (fun hb => ?_) (fun hb => ?_)) <;> ((try have hq := dX hb); (try (exfalso; omega))))) | (apply qr_pick; refine r_pick ?_) | (apply qr_lss; refine r_lss ?_) | (apply qr_neq; refine r_neq ?_) | (apply qr_add; refine r_add ?_) | (apply qr_min; refine r_min ?_) | (apply qr_len; refine r_len ?_) | (apply qr_extract; refine r_extract ?_) | (apply qr_slice; refine r_slice ?_) | (apply qr_load; refine r_load ?_) | (apply qr_faddr; refine r_faddr ?_) | (apply qr_nilck; refine r_nilck ?_) | (apply qr_store; refine r_store ?_))
          refine aw_mix [(0, true), (1, true), (2, true), (3, true), (5, true), (6, true), (7, true), (4, false), (8, true), (9, true), (10, true), (11, true), (12, true), (13, true), (14, true)] [] (by kernel_rfl) (by kernel_rfl) (by kernel_rfl) (by decide) ?_
          simp only [planned, tailed, List.filterMap_cons, List.filterMap_nil, List.getElem?_cons_zero, List.getElem?_cons_succ, Option.map_some]
          repeat' (first | apply am_nil | refine m_skip ?_ | refine n_skip ?_ | (apply at_am (.binOp .neq _ _ _ _); refine am_y (by first | exact want_none | exact want_yes rfl rfl (by assumption) | exact want_yes rfl rfl (by with_reducible rfl)) (y_nilneq rfl errT) (lt_ok rfl) ?_) | (apply at_mcall; refine m_call (itoa_any n hbd.1 hbd.2) hE ?_; rintro _ rfl; (try dsimp only [flat, D.plain, D.plainL])) | (apply qm_move; refine m_move ?_) | (apply qm_pick; refine m_pick ?_) | (apply qm_lss; refine m_lss ?_) | (apply qm_neq; refine m_neq ?_) | (apply qm_slice; refine m_slice ?_) | (refine am_split rfl rfl (fun hb => ?_) (fun hb => ?_) <;> ((try have hq := dX hb); (try (exfalso; omega)))))
          repeat' (first | refine nx ?_ | (apply qr_move; refine r_move ?_) | (apply qr_assign; refine r_assign ?_) | (apply at_cond; first | refine c_t ?_ | refine c_f ?_ | (refine aw_cond rfl (fun hb => ?_) (fun hb => ?_) <;> ((try have hq := dX hb); (try (exfalso; omega))))) | (apply at_guard; first | refine g_go ?_ | refine g_nt ?_ | refine g_nf ?_ | refine g_nu ?_ | ((first | refine al_split_t rfl rfl (lt_ok rfl) (fun hb => ?_) (fun hb => ?_) | refine al_split_f rfl rfl (lt_ok rfl) (fun hb => ?_) (fun hb => ?_)) <;> ((try have hq := dX hb); (try (exfalso; omega))))) | (apply qr_pick; refine r_pick ?_) | (apply qr_lss; refine r_lss ?_) | (apply qr_neq; refine r_neq ?_) | (apply qr_add; refine r_add ?_) | (apply qr_min; refine r_min ?_) | (apply qr_len; refine r_len ?_) | (apply qr_extract; refine r_extract ?_) | (apply qr_slice; refine r_slice ?_) | (apply qr_load; refine r_load ?_) | (apply qr_faddr; refine r_faddr ?_) | (apply qr_nilck; refine r_nilck ?_) | (apply qr_store; refine r_store ?_))
          refine oret1 (rd (r.extract (atV r c + 1).toNat r.size) b) (by rfl) rv (.inl ⟨n, ⟨by omega, hn, hi, hle⟩, rfl, by rw [e3]⟩) sb okx
        · skip
          repeat' (first | (apply at_call; refine k_call (indexbyte_any (headV r) c.toNat) hE ?_; rintro _ rfl; rw [e1]) | (apply at_call; refine k_call (hat) hE ?_; rintro _ rfl) | refine nx ?_ | (apply qr_move; refine r_move ?_) | (apply qr_assign; refine r_assign ?_) | (apply at_cond; first | refine c_t ?_ | refine c_f ?_ | (refine aw_cond rfl (fun hb => ?_) (fun hb => ?_) <;> ((try have hq := dX hb); (try (exfalso; omega))))) | (apply at_guard; first | refine g_go ?_ | refine g_nt ?_ | refine g_nf ?_ | refine g_nu ?_ | ((first | refine al_split_t rfl rfl (lt_ok rfl) (fun hb => ?_) (fun hb => ?_) | refine al_split_f rfl rfl (lt_ok rfl) (fun hb => ?_) (fun hb => ?_)) <;> ((try have hq := dX hb); (try (exfalso; omega))))) | (apply qr_pick; refine r_pick ?_) | (apply qr_lss; refine r_lss ?_) | (apply qr_neq; refine r_neq ?_) | (apply qr_add; refine r_add ?_) | (apply qr_min; refine r_min ?_) | (apply qr_len; refine r_len ?_) | (apply qr_extract; refine r_extract ?_) | (apply qr_slice; refine r_slice ?_) | (apply qr_load; refine r_load ?_) | (apply qr_faddr; refine r_faddr ?_) | (apply qr_nilck; refine r_nilck ?_) | (apply qr_store; refine r_store ?_))
          refine aw_mix [(0, true), (1, true), (2, true), (3, true), (5, true), (6, true), (7, true), (4, false), (8, true), (9, true), (10, true), (11, true), (12, true), (13, true), (14, true)] [] (by kernel_rfl) (by kernel_rfl) (by kernel_rfl) (by decide) ?_
          simp only [planned, tailed, List.filterMap_cons, List.filterMap_nil, List.getElem?_cons_zero, List.getElem?_cons_succ, Option.map_some]
          repeat' (first | apply am_nil | refine m_skip ?_ | refine n_skip ?_ | (apply at_am (.binOp .neq _ _ _ _); refine am_y (by first | exact want_none | exact want_yes rfl rfl (by assumption) | exact want_yes rfl rfl (by with_reducible rfl)) (y_nilneq rfl errT) (lt_ok rfl) ?_) | (apply at_mcall; refine m_call (itoa_any n hbd.1 hbd.2) hE ?_; rintro _ rfl; (try dsimp only [flat, D.plain, D.plainL])) | (apply qm_move; refine m_move ?_) | (apply qm_pick; refine m_pick ?_) | (apply qm_lss; refine m_lss ?_) | (apply qm_neq; refine m_neq ?_) | (apply qm_slice; refine m_slice ?_) | (refine am_split rfl rfl (fun hb => ?_) (fun hb => ?_) <;> ((try have hq := dX hb); (try (exfalso; omega)))))
          repeat' (first | (apply at_call; refine k_ocall [(1000, 1000)] (fail_any r b) hE ?_; rintro _ _ ⟨rfl, rfl⟩ <;> (intro _ _ h1 h2; simp only [renEqs, Nat.reduceBEq, renL_app, renL_ds, renL_und] at h1 h2; subst h1 h2)) | refine nx ?_ | (apply qr_move; refine r_move ?_) | (apply qr_assign; refine r_assign ?_) | (apply at_cond; first | refine c_t ?_ | refine c_f ?_ | (refine aw_cond rfl (fun hb => ?_) (fun hb => ?_) <;> ((try have hq := dX hb); (try (exfalso; omega))))) | (apply at_guard; first | refine g_go ?_ | refine g_nt ?_ | refine g_nf ?_ | refine g_nu ?_ | ((first | refine al_split_t rfl rfl (lt_ok rfl) (fun hb => ?_) (fun hb => ?_) | refine al_split_f rfl rfl (lt_ok rfl) (fun hb => ?_) (fun hb => ?_)) <;> ((try have hq := dX hb); (try (exfalso; omega))))) | (apply qr_pick; refine r_pick ?_) | (apply qr_lss; refine r_lss ?_) | (apply qr_neq; refine r_neq ?_) | (apply qr_add; refine r_add ?_) | (apply qr_min; refine r_min ?_) | (apply qr_len; refine r_len ?_) | (apply qr_extract; refine r_extract ?_) | (apply qr_slice; refine r_slice ?_) | (apply qr_load; refine r_load ?_) | (apply qr_faddr; refine r_faddr ?_) | (apply qr_nilck; refine r_nilck ?_) | (apply qr_store; refine r_store ?_))
          refine oret1 (rd emp true) (by rfl) rv (.inr ⟨hno (fun _ => hle), rfl, rfl⟩) sb okx
      · have f1 : (!decide (itoaB n = numV r c)) = true := by simp [hi]
        repeat' (first | (apply at_call; refine k_call (indexbyte_any (headV r) c.toNat) hE ?_; rintro _ rfl; rw [e1]) | (apply at_call; refine k_call (hat) hE ?_; rintro _ rfl) | refine nx ?_ | (apply qr_move; refine r_move ?_) | (apply qr_assign; refine r_assign ?_) | (apply at_cond; first | refine c_t ?_ | refine c_f ?_ | (refine aw_cond rfl (fun hb => ?_) (fun hb => ?_) <;> ((try have hq := dX hb); (try (exfalso; omega))))) | (apply at_guard; first | refine g_go ?_ | refine g_nt ?_ | refine g_nf ?_ | refine g_nu ?_ | ((first | refine al_split_t rfl rfl (lt_ok rfl) (fun hb => ?_) (fun hb => ?_) | refine al_split_f rfl rfl (lt_ok rfl) (fun hb => ?_) (fun hb => ?_)) <;> ((try have hq := dX hb); (try (exfalso; omega))))) | (apply qr_pick; refine r_pick ?_) | (apply qr_lss; refine r_lss ?_) | (apply qr_neq; refine r_neq ?_) | (apply qr_add; refine r_add ?_) | (apply qr_min; refine r_min ?_) | (apply qr_len; refine r_len ?_) | (apply qr_extract; refine r_extract ?_) | (apply qr_slice; refine r_slice ?_) | (apply qr_load; refine r_load ?_) | (apply qr_faddr; refine r_faddr ?_) | (apply qr_nilck; refine r_nilck ?_) | (apply qr_store; refine r_store ?_))
        refine aw_mix [(0, true), (1, true), (2, true), (3, true), (5, true), (6, true), (7, true), (4, false), (8, true), (9, true), (10, true), (11, true), (12, true), (13, true), (14, true)] [] (by kernel_rfl) (by kernel_rfl) (by kernel_rfl) (by decide) ?_
        simp only [planned, tailed, List.filterMap_cons, List.filterMap_nil, List.getElem?_cons_zero, List.getElem?_cons_succ, Option.map_some]
        repeat' (first | apply am_nil | refine m_skip ?_ | refine n_skip ?_ | (apply at_am (.binOp .neq _ _ _ _); refine am_y (by first | exact want_none | exact want_yes rfl rfl (by assumption) | exact want_yes rfl rfl (by with_reducible rfl)) (y_nilneq rfl errT) (lt_ok rfl) ?_) | (apply at_mcall; refine m_call (itoa_any n hbd.1 hbd.2) hE ?_; rintro _ rfl; (try dsimp only [flat, D.plain, D.plainL])) | (apply qm_move; refine m_move ?_) | (apply qm_pick; refine m_pick ?_) | (apply qm_lss; refine m_lss ?_) | (apply qm_neq; refine m_neq ?_) | (apply qm_slice; refine m_slice ?_) | (refine am_split rfl rfl (fun hb => ?_) (fun hb => ?_) <;> ((try have hq := dX hb); (try (exfalso; omega)))))
        repeat' (first | (apply at_call; refine k_ocall [(1000, 1000)] (fail_any r b) hE ?_; rintro _ _ ⟨rfl, rfl⟩ <;> (intro _ _ h1 h2; simp only [renEqs, Nat.reduceBEq, renL_app, renL_ds, renL_und] at h1 h2; subst h1 h2)) | refine nx ?_ | (apply qr_move; refine r_move ?_) | (apply qr_assign; refine r_assign ?_) | (apply at_cond; first | refine c_t ?_ | refine c_f ?_ | (refine aw_cond rfl (fun hb => ?_) (fun hb => ?_) <;> ((try have hq := dX hb); (try (exfalso; omega))))) | (apply at_guard; first | refine g_go ?_ | refine g_nt ?_ | refine g_nf ?_ | refine g_nu ?_ | ((first | refine al_split_t rfl rfl (lt_ok rfl) (fun hb => ?_) (fun hb => ?_) | refine al_split_f rfl rfl (lt_ok rfl) (fun hb => ?_) (fun hb => ?_)) <;> ((try have hq := dX hb); (try (exfalso; omega))))) | (apply qr_pick; refine r_pick ?_) | (apply qr_lss; refine r_lss ?_) | (apply qr_neq; refine r_neq ?_) | (apply qr_add; refine r_add ?_) | (apply qr_min; refine r_min ?_) | (apply qr_len; refine r_len ?_) | (apply qr_extract; refine r_extract ?_) | (apply qr_slice; refine r_slice ?_) | (apply qr_load; refine r_load ?_) | (apply qr_faddr; refine r_faddr ?_) | (apply qr_nilck; refine r_nilck ?_) | (apply qr_store; refine r_store ?_))
        refine oret1 (rd emp true) (by rfl) rv (.inr ⟨hno (fun h => absurd h hi), rfl, rfl⟩) sb okx
    · have hat : PureC 86 [.str (numV r c)] (fun x => ∃ m, x = .tup [.int m, .err]) := (atoi_any (numV r c) (by omega)).mono fun x h => by
        unfold AtoiD at h
        cases hq : Lib.atoiAll (numV r c).data.toList with
        | ok n => exact absurd ⟨n, hq⟩ hok
        | _ => rw [hq] at h; exact h
      repeat' (first | (apply at_call; refine k_call (indexbyte_any (headV r) c.toNat) hE ?_; rintro _ rfl; rw [e1]) | (apply at_call; refine k_call (hat) hE ?_; rintro _ ⟨m, rfl⟩) | refine nx ?_ | (apply qr_move; refine r_move ?_) | (apply qr_assign; refine r_assign ?_) | (apply at_cond; first | refine c_t ?_ | refine c_f ?_ | (refine aw_cond rfl (fun hb => ?_) (fun hb => ?_) <;> ((try have hq := dX hb); (try (exfalso; omega))))) | (apply at_guard; first | refine g_go ?_ | refine g_nt ?_ | refine g_nf ?_ | refine g_nu ?_ | ((first | refine al_split_t rfl rfl (lt_ok rfl) (fun hb => ?_) (fun hb => ?_) | refine al_split_f rfl rfl (lt_ok rfl) (fun hb => ?_) (fun hb => ?_)) <;> ((try have hq := dX hb); (try (exfalso; omega))))) | (apply qr_pick; refine r_pick ?_) | (apply qr_lss; refine r_lss ?_) | (apply qr_neq; refine r_neq ?_) | (apply qr_add; refine r_add ?_) | (apply qr_min; refine r_min ?_) | (apply qr_len; refine r_len ?_) | (apply qr_extract; refine r_extract ?_) | (apply qr_slice; refine r_slice ?_) | (apply qr_load; refine r_load ?_) | (apply qr_faddr; refine r_faddr ?_) | (apply qr_nilck; refine r_nilck ?_) | (apply qr_store; refine r_store ?_))
      refine aw_mix [(0, true), (1, true), (2, true), (3, true), (5, true), (6, true), (7, true), (4, false), (8, true), (9, true), (10, true), (11, true), (12, true), (13, true), (14, true)] [] (by kernel_rfl) (by kernel_rfl) (by kernel_rfl) (by decide) ?_
      simp only [planned, tailed, List.filterMap_cons, List.filterMap_nil, List.getElem?_cons_zero, List.getElem?_cons_succ, Option.map_some]
      repeat' (first | apply am_nil | refine m_skip ?_ | refine n_skip ?_ | (apply at_am (.binOp .neq _ _ _ _); refine am_y (by first | exact want_none | exact want_yes rfl rfl (by assumption) | exact want_yes rfl rfl (by with_reducible rfl)) (y_errneq rfl errT) (lt_ok rfl) ?_) | (apply qm_move; refine m_move ?_) | (apply qm_pick; refine m_pick ?_) | (apply qm_lss; refine m_lss ?_) | (apply qm_neq; refine m_neq ?_) | (apply qm_slice; refine m_slice ?_) | (refine am_split rfl rfl (fun hb => ?_) (fun hb => ?_) <;> ((try have hq := dX hb); (try (exfalso; omega)))))
      repeat' (first | (apply at_call; refine k_ocall [(1000, 1000)] (fail_any r b) hE ?_; rintro _ _ ⟨rfl, rfl⟩ <;> (intro _ _ h1 h2; simp only [renEqs, Nat.reduceBEq, renL_app, renL_ds, renL_und] at h1 h2; subst h1 h2)) | refine nx ?_ | (apply qr_move; refine r_move ?_) | (apply qr_assign; refine r_assign ?_) | (apply at_cond; first | refine c_t ?_ | refine c_f ?_ | (refine aw_cond rfl (fun hb => ?_) (fun hb => ?_) <;> ((try have hq := dX hb); (try (exfalso; omega))))) | (apply at_guard; first | refine g_go ?_ | refine g_nt ?_ | refine g_nf ?_ | refine g_nu ?_ | ((first | refine al_split_t rfl rfl (lt_ok rfl) (fun hb => ?_) (fun hb => ?_) | refine al_split_f rfl rfl (lt_ok rfl) (fun hb => ?_) (fun hb => ?_)) <;> ((try have hq := dX hb); (try (exfalso; omega))))) | (apply qr_pick; refine r_pick ?_) | (apply qr_lss; refine r_lss ?_) | (apply qr_neq; refine r_neq ?_) | (apply qr_add; refine r_add ?_) | (apply qr_min; refine r_min ?_) | (apply qr_len; refine r_len ?_) | (apply qr_extract; refine r_extract ?_) | (apply qr_slice; refine r_slice ?_) | (apply qr_load; refine r_load ?_) | (apply qr_faddr; refine r_faddr ?_) | (apply qr_nilck; refine r_nilck ?_) | (apply qr_store; refine r_store ?_))
      refine oret1 (rd emp true) (by rfl) rv (.inr ⟨fun n h => hok ⟨n, h.2.1⟩, rfl, rfl⟩) sb okx
end Go.Proofs.YtfgibalcdjlnhaaGreatDoor
end
section
set_option linter.unusedSimpArgs false
set_option linter.unusedVariables false
namespace Go.Proofs.YtfgibalcdjlnhaaGreatDoor
open Go.RowKit


open Classical in
/-- the int that stands at the beginning -/
noncomputable def numR (r : ByteArray) (c : UInt8) (least : Int) : Option Int := if h : ∃ n, numIs r c least n then some (Classical.choose h) else none
theorem numIs_unique {r : ByteArray} {c : UInt8} {least n m : Int} (h : numIs r c least n) (h' : numIs r c least m) : n = m := by
  have h1 := h.2.1
  rw [h'.2.1] at h1
  injection h1 with h1
  exact h1.symm
theorem numR_some {r : ByteArray} {c : UInt8} {least n : Int} (h : numIs r c least n) : numR r c least = some n := by
  have he : ∃ n, numIs r c least n := ⟨n, h⟩
  unfold numR
  rw [dif_pos he, numIs_unique (Classical.choose_spec he) h]
theorem numR_none {r : ByteArray} {c : UInt8} {least : Int} (h : ∀ n, ¬ numIs r c least n) : numR r c least = none := by
  unfold numR
  rw [dif_neg (fun ⟨n, hn⟩ => h n hn)]
theorem numR_is {r : ByteArray} {c : UInt8} {least n : Int} (h : numR r c least = some n) : numIs r c least n := by
  by_cases he : ∃ n, numIs r c least n
  · obtain ⟨m, hm⟩ := he
    rw [numR_some hm] at h
    injection h with h
    rw [← h]
    exact hm
  · rw [numR_none (fun n hn => he ⟨n, hn⟩)] at h
    cases h
structure RS (α : Type) where
  v : α
  r : ByteArray
  b : Bool
noncomputable def numS (r : ByteArray) (b : Bool) (c : UInt8) (least : Int) : RS Int := match numR r c least with
  | some n => ⟨n, behind r c, b⟩
  | none => ⟨0, emp, true⟩
theorem behind_size {r : ByteArray} {c : UInt8} {least n : Int} (h : numIs r c least n) : (behind r c).size < r.size := by
  have h1 := atV_bd r c
  have h2 := h.1
  simp only [behind, ByteArray.size_extract]
  omega
/-- what is read is gone -/
theorem numS_size (r : ByteArray) (b : Bool) (c : UInt8) (least : Int) : ((numS r b c least).b = b ∧ (numS r b c least).r.size < r.size) ∨ (numS r b c least = ⟨0, emp, true⟩) := by
  cases h : numR r c least with
  | none => right; simp only [numS, h]
  | some n =>
    left
    simp only [numS, h, true_and]
    exact behind_size (numR_is h)
theorem numS_le {r : ByteArray} {b : Bool} {c : UInt8} {least : Int} : (numS r b c least).r.size ≤ r.size := by
  rcases numS_size r b c least with h | h
  · omega
  · rw [h]; exact Nat.zero_le _
theorem num_ge {r : ByteArray} {b : Bool} {c : UInt8} {least : Int} (hl : least ≤ 0) : least ≤ (numS r b c least).v := by
  unfold numS
  cases h : numR r c least with
  | none => exact hl
  | some n => exact (numR_is h).2.2.2
theorem num_le {r : ByteArray} {b : Bool} {c : UInt8} {least : Int} : (numS r b c least).v ≤ 9223372036854775807 := by
  unfold numS
  cases h : numR r c least with
  | none => simp
  | some n => exact (atoiAll_bd (numR_is h).2.1).2
theorem number_s (r : ByteArray) (b : Bool) (c : UInt8) (least : Int) (hr : r.size ≤ 1000000000) : ObC 73 [.box 1000 0, .d (.val (.int .u8 c.toNat)), .d (.int least)] (rd r b) []
    (fun x o => x = .d (.int (numS r b c least).v) ∧ o = rd (numS r b c least).r (numS r b c least).b) :=
  (number_any r b c least hr).mono fun x o h => by
    rcases h with ⟨n, h1, h2, h3⟩ | ⟨h1, h2, h3⟩
    · simp only [numS, numR_some h1]
      exact ⟨h2, h3⟩
    · simp only [numS, numR_none h1]
      exact ⟨h2, h3⟩
attribute [local irreducible] numS
theorem num_any (r : ByteArray) (b : Bool) (hr : r.size ≤ 1000000000) : ObC 54 [.box 1000 0] (rd r b) [] (fun x o => x = .d (.int (numS r b 59 0).v) ∧ o = rd (numS r b 59 0).r (numS r b 59 0).b) := by
  refine ob_enter Tryz.func54 rfl (by decide) _ Tryz.ntmps54 (le_ok rfl) rfl (fun w Pr β κ hE => ?_)
  dsimp only [slotsV, Nat.zero_add, Nat.reduceAdd]
  repeat' (first | (apply at_call; refine k_ocall [(1000, 1000)] (number_s r b 59 0 hr) hE ?_; rintro _ _ ⟨rfl, rfl⟩ <;> (intro _ _ h1 h2; simp only [renEqs, Nat.reduceBEq, renL_app, renL_ds, renL_und] at h1 h2; subst h1 h2)) | refine nx ?_ | (apply qr_move; refine r_move ?_) | (apply qr_assign; refine r_assign ?_))
  refine oret1 (rd (numS r b 59 0).r (numS r b 59 0).b) (by rfl) rv (⟨rfl, rfl⟩) sb okx
def least64 : Int := -9223372036854775808
/-- a byte is read -/
def closeS (r : ByteArray) (b : Bool) (e : ByteArray) : ByteArray × Bool := if Lib.hasPrefix r.data.toList e.data.toList then (⟨(Lib.trimPrefix r.data.toList e.data.toList).toArray⟩, b) else (emp, true)
theorem close_any (r : ByteArray) (b : Bool) (e : ByteArray) : ObC 75 [.box 1000 0, .d (.str e)] (rd r b) [] (fun x o => x = .tup [] ∧ o = rd (closeS r b e).1 (closeS r b e).2) := by
  refine ob_enter Tryz.func75 rfl (by decide) _ Tryz.ntmps75 (le_ok rfl) rfl (fun w Pr β κ hE => ?_)
  dsimp only [slotsV, Nat.zero_add, Nat.reduceAdd]
  cases hp : Lib.hasPrefix r.data.toList e.data.toList with
  | true =>
    repeat' (first | (apply at_call; refine k_call (cutprefix_any r e) hE ?_; rintro _ rfl; rw [hp]) | refine nx ?_ | (apply qr_move; refine r_move ?_) | (apply qr_assign; refine r_assign ?_) | (apply at_cond; first | refine c_t ?_ | refine c_f ?_ | (refine aw_cond rfl (fun hb => ?_) (fun hb => ?_) <;> ((try have hq := dX hb); (try (exfalso; omega))))) | (apply qr_not; refine r_not ?_) | (apply qr_extract; refine r_extract ?_) | (apply qr_load; refine r_load ?_) | (apply qr_faddr; refine r_faddr ?_) | (apply qr_nilck; refine r_nilck ?_) | (apply qr_store; refine r_store ?_))
    try refine aq_end ?_
    refine oret0 (rd ⟨(Lib.trimPrefix r.data.toList e.data.toList).toArray⟩ b) (by rfl) (⟨rfl, by simp [closeS, hp]⟩) sb okx
  | false =>
    repeat' (first | (apply at_call; refine k_call (cutprefix_any r e) hE ?_; rintro _ rfl; rw [hp]) | (apply at_call; refine k_ocall [(1000, 1000)] (fail_any _ _) hE ?_; rintro _ _ ⟨rfl, rfl⟩ <;> (intro _ _ h1 h2; simp only [renEqs, Nat.reduceBEq, renL_app, renL_ds, renL_und] at h1 h2; subst h1 h2)) | refine nx ?_ | (apply qr_move; refine r_move ?_) | (apply qr_assign; refine r_assign ?_) | (apply at_cond; first | refine c_t ?_ | refine c_f ?_ | (refine aw_cond rfl (fun hb => ?_) (fun hb => ?_) <;> ((try have hq := dX hb); (try (exfalso; omega))))) | (apply qr_not; refine r_not ?_) | (apply qr_extract; refine r_extract ?_) | (apply qr_load; refine r_load ?_) | (apply qr_faddr; refine r_faddr ?_) | (apply qr_nilck; refine r_nilck ?_) | (apply qr_store; refine r_store ?_))
    try refine aq_end ?_
    refine oret0 (rd emp true) (by rfl) (⟨rfl, by simp [closeS, hp]⟩) sb okx
theorem closeS_size (r : ByteArray) (b : Bool) (e : ByteArray) : (closeS r b e).1.size ≤ r.size := by
  unfold closeS
  split
  · have : (Lib.trimPrefix r.data.toList e.data.toList).length ≤ r.data.toList.length := by
      unfold Lib.trimPrefix
      split
      all_goals first
        | exact Nat.le_refl _
        | (rw [List.length_drop]; exact Nat.sub_le _ _)
    have h2 : r.data.toList.length = r.size := by simp
    show (List.toArray _).size ≤ _
    rw [List.size_toArray]
    omega
  · exact Nat.zero_le _
noncomputable def textS (r : ByteArray) (b : Bool) : RS ByteArray :=
  let q := numS r b 58 0
  if q.v > q.r.size then ⟨emp, emp, true⟩
  else
    let c := closeS (q.r.extract q.v.toNat q.r.size) q.b ⟨#[44]⟩
    ⟨if c.2 then emp else q.r.extract 0 q.v.toNat, c.1, c.2⟩
attribute [local irreducible] closeS
set_option maxHeartbeats 1000000 in
theorem text_any (r : ByteArray) (b : Bool) (hr : r.size ≤ 1000000000) : ObC 53 [.box 1000 0] (rd r b) [] (fun x o => x = .d (.str (textS r b).v) ∧ o = rd (textS r b).r (textS r b).b) := by
  refine ob_enter Tryz.func53 rfl (by decide) _ Tryz.ntmps53 (le_ok rfl) rfl (fun w Pr β κ hE => ?_)
  dsimp only [slotsV, Nat.zero_add, Nat.reduceAdd]
  have h0 := num_ge (r := r) (b := b) (c := 58) (least := 0) (Int.le_refl _)
  have h1 := numS_le (r := r) (b := b) (c := 58) (least := 0)
  have hT : textS r b = textS r b := rfl
  conv at hT => rhs; unfold textS
  rcases hq : numS r b 58 0 with ⟨n, q, e⟩
  rw [hq] at hT h0 h1
  simp only at hT h0 h1
  by_cases hn : n > q.size
  · rw [if_pos hn] at hT
    repeat' (first | (apply at_call; refine k_ocall [(1000, 1000)] (number_s r b 58 0 hr) hE ?_; rw [hq]; rintro _ _ ⟨rfl, rfl⟩ <;> (intro _ _ h1 h2; simp only [renEqs, Nat.reduceBEq, renL_app, renL_ds, renL_und] at h1 h2; subst h1 h2)) | (apply at_call; refine k_ocall [(1000, 1000)] (fail_any _ _) hE ?_; rintro _ _ ⟨rfl, rfl⟩ <;> (intro _ _ h1 h2; simp only [renEqs, Nat.reduceBEq, renL_app, renL_ds, renL_und] at h1 h2; subst h1 h2)) | refine nx ?_ | (apply qr_move; refine r_move ?_) | (apply qr_assign; refine r_assign ?_) | (apply at_cond; first | refine c_t ?_ | refine c_f ?_ | (refine aw_cond rfl (fun hb => ?_) (fun hb => ?_) <;> ((try have hq := dX hb); (try (exfalso; omega))))) | (apply qr_gtr; refine r_gtr ?_) | (apply qr_len; refine r_len ?_) | (apply qr_slice; refine r_slice ?_) | (apply qr_load; refine r_load ?_) | (apply qr_faddr; refine r_faddr ?_) | (apply qr_nilck; refine r_nilck ?_) | (apply qr_store; refine r_store ?_))
    refine oret1 (rd emp true) (by rfl) rv (⟨by rw [hT]; rfl, by rw [hT]⟩) sb okx
  · rw [if_neg hn] at hT
    rcases hc : closeS (q.extract n.toNat q.size) e ⟨#[44]⟩ with ⟨q2, e2⟩
    rw [hc] at hT
    simp only at hT
    cases e2
    · skip
      repeat' (first | (apply at_call; refine k_ocall [(1000, 1000)] (number_s r b 58 0 hr) hE ?_; rw [hq]; rintro _ _ ⟨rfl, rfl⟩ <;> (intro _ _ h1 h2; simp only [renEqs, Nat.reduceBEq, renL_app, renL_ds, renL_und] at h1 h2; subst h1 h2)) | (apply at_call; refine k_ocall [(1000, 1000)] (close_any (q.extract n.toNat q.size) e ⟨#[44]⟩) hE ?_; rw [hc]; rintro _ _ ⟨rfl, rfl⟩ <;> (intro _ _ h1 h2; simp only [renEqs, Nat.reduceBEq, renL_app, renL_ds, renL_und] at h1 h2; subst h1 h2)) | refine nx ?_ | (apply qr_move; refine r_move ?_) | (apply qr_assign; refine r_assign ?_) | (apply at_cond; first | refine c_t ?_ | refine c_f ?_ | (refine aw_cond rfl (fun hb => ?_) (fun hb => ?_) <;> ((try have hq := dX hb); (try (exfalso; omega))))) | (apply qr_gtr; refine r_gtr ?_) | (apply qr_len; refine r_len ?_) | (apply qr_slice; refine r_slice ?_) | (apply qr_load; refine r_load ?_) | (apply qr_faddr; refine r_faddr ?_) | (apply qr_nilck; refine r_nilck ?_) | (apply qr_store; refine r_store ?_))
      refine oret1 (rd q2 false) (by rfl) rv (⟨by rw [hT]; rfl, by rw [hT]⟩) sb okx
    · skip
      repeat' (first | (apply at_call; refine k_ocall [(1000, 1000)] (number_s r b 58 0 hr) hE ?_; rw [hq]; rintro _ _ ⟨rfl, rfl⟩ <;> (intro _ _ h1 h2; simp only [renEqs, Nat.reduceBEq, renL_app, renL_ds, renL_und] at h1 h2; subst h1 h2)) | (apply at_call; refine k_ocall [(1000, 1000)] (close_any (q.extract n.toNat q.size) e ⟨#[44]⟩) hE ?_; rw [hc]; rintro _ _ ⟨rfl, rfl⟩ <;> (intro _ _ h1 h2; simp only [renEqs, Nat.reduceBEq, renL_app, renL_ds, renL_und] at h1 h2; subst h1 h2)) | refine nx ?_ | (apply qr_move; refine r_move ?_) | (apply qr_assign; refine r_assign ?_) | (apply at_cond; first | refine c_t ?_ | refine c_f ?_ | (refine aw_cond rfl (fun hb => ?_) (fun hb => ?_) <;> ((try have hq := dX hb); (try (exfalso; omega))))) | (apply qr_gtr; refine r_gtr ?_) | (apply qr_len; refine r_len ?_) | (apply qr_slice; refine r_slice ?_) | (apply qr_load; refine r_load ?_) | (apply qr_faddr; refine r_faddr ?_) | (apply qr_nilck; refine r_nilck ?_) | (apply qr_store; refine r_store ?_))
      refine oret1 (rd q2 true) (by rfl) rv (⟨by rw [hT]; rfl, by rw [hT]⟩) sb okx
end Go.Proofs.YtfgibalcdjlnhaaGreatDoor
end
