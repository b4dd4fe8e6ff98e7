/-
  Contracts of the library's functions at this program, off the shelf. Conditions: as each says.
-/
import Derived.Shelf.Strings.OnBuilder
import Derived.Shelf.Small.Strs
import Derived.Shelf.LaysM
import Derived.Shelf.Strconv.Itoa3
import Derived.Shelf.LaysC
import Derived.Shelf.Strconv.ParseIntPublic10
import Derived.Shelf.Strings.Search3
import Derived.Shelf.Strings.Prefix
import Derived.Shelf.Strings.Fields
import Derived.Shelf.Slices.Turned
import Derived.Test.YtebljciefhfgbaaGreatDoorProg
namespace Go.Proofs
open Tryz
theorem Tryz.cS {α:Type _} {a b:α} (h:a=b):some a=some b:=congrArg some h
open Go.Shelf
def Tryz.lays158_ren : Ren:=⟨fun | 158 => 123 | 165 => 157 | 166 => 127 | 167 => 130 | 169 => 129 | 230 => 158 | 203 => 159 | 240 => 164 | 241 => 184 | 197 => 185 | 118 => 186 | 168 => 187 | 270 => 188 | 262 => 189 | 276 => 196 | 277 => 206 | 260 => 207 | 242 => 208 | 313 => 209 | 278 => 220 | 274 => 221 | 275 => 222 | n => n, fun | 9 => 9 | 4 => 4 | 3 => 3 | 5 => 5 | 72 => 245 | 0 => 0 | 76 => 247 | 75 => 240 | 107 => 281 | 70 => 243 | 20 => 20 | 37 => 69 | 127 => 283 | 21 => 21 | 105 => 303 | 164 => 314 | 162 => 328 | 203 => 326 | 119 => 149 | 46 => 233 | 139 => 336 | 138 => 335 | 51 => 276 | 160 => 337 | 208 => 350 | 206 => 348 | 80 => 165 | n => n, fun | 13 => 5 | 3 => 9 | 4 => 10 | n => n⟩
theorem Tryz.lays158 : Go.Proofs.Lays.n158 Tryz.prog Tryz.lays158_ren:={
 mixed:=by kernel_rfl
 f118:=func186.trans (cS (by kernel_rfl))
 f158:=func123.trans (cS (by kernel_rfl))
 f165:=func157.trans (cS (by kernel_rfl))
 f166:=func127.trans (cS (by kernel_rfl))
 f167:=func130.trans (cS (by kernel_rfl))
 f168:=func187.trans (cS (by kernel_rfl))
 f169:=func129.trans (cS (by kernel_rfl))
 f197:=func185.trans (cS (by kernel_rfl))
 f203:=func159.trans (cS (by kernel_rfl))
 f230:=func158.trans (cS (by kernel_rfl))
 f240:=func164.trans (cS (by kernel_rfl))
 f241:=func184.trans (cS (by kernel_rfl))
 f242:=func208.trans (cS (by kernel_rfl))
 f260:=func207.trans (cS (by kernel_rfl))
 f262:=func189.trans (cS (by kernel_rfl))
 f270:=func188.trans (cS (by kernel_rfl))
 f274:=func221.trans (cS (by kernel_rfl))
 f275:=func222.trans (cS (by kernel_rfl))
 f276:=func196.trans (cS (by kernel_rfl))
 f277:=func206.trans (cS (by kernel_rfl))
 f278:=func220.trans (cS (by kernel_rfl))
 f313:=func209.trans (cS (by kernel_rfl))
 t0:=underlying0, a0:=isAgg0, z0:=sizeOf0,v0:=zeroValue0
 t3:=underlying3, a3:=isAgg3, z3:=sizeOf3,v3:=zeroValue3
 t4:=underlying4, a4:=isAgg4, z4:=sizeOf4,v4:=zeroValue4
 t5:=underlying5, a5:=isAgg5, z5:=sizeOf5,v5:=zeroValue5
 t9:=underlying9, a9:=isAgg9, z9:=sizeOf9,v9:=zeroValue9
 t20:=underlying20, a20:=isAgg20, z20:=sizeOf20,v20:=zeroValue20
 t21:=underlying21, a21:=isAgg21, z21:=sizeOf21,v21:=zeroValue21
 t37:=underlying69, a37:=isAgg69, z37:=sizeOf69,v37:=zeroValue69
 t46:=underlying233, a46:=isAgg233, z46:=sizeOf233,v46:=zeroValue233
 t51:=underlying276, a51:=isAgg276, z51:=sizeOf276,v51:=zeroValue276
 t70:=underlying243, a70:=isAgg243, z70:=sizeOf243,v70:=zeroValue243
 t72:=underlying245, a72:=isAgg245, z72:=sizeOf245,v72:=zeroValue245
 t75:=underlying240, a75:=isAgg240, z75:=sizeOf240,v75:=zeroValue240
 t76:=underlying247, a76:=isAgg247, z76:=sizeOf247,v76:=zeroValue247
 t105:=underlying303, a105:=isAgg303, z105:=sizeOf303,v105:=zeroValue303
 t107:=underlying281, a107:=isAgg281, z107:=sizeOf281,v107:=zeroValue281
 t119:=underlying149, a119:=isAgg149,z119:=sizeOf149
 t127:=underlying283, a127:=isAgg283, z127:=sizeOf283,v127:=zeroValue283
 t138:=underlying335, a138:=isAgg335, z138:=sizeOf335,v138:=zeroValue335
 t139:=underlying336, a139:=isAgg336, z139:=sizeOf336,v139:=zeroValue336
 t160:=underlying337, a160:=isAgg337, z160:=sizeOf337,v160:=zeroValue337
 t162:=underlying328, a162:=isAgg328, z162:=sizeOf328,v162:=zeroValue328
 t164:=underlying314, a164:=isAgg314, z164:=sizeOf314,v164:=zeroValue314
 t203:=underlying326, a203:=isAgg326, z203:=sizeOf326,v203:=zeroValue326
 t206:=underlying348, a206:=isAgg348, z206:=sizeOf348,v206:=zeroValue348
 t208:=underlying350, a208:=isAgg350, z208:=sizeOf350,v208:=zeroValue350
 g3:=by kernel_rfl
 g4:=by kernel_rfl
 g13:=by kernel_rfl }
theorem Tryz.Builder_Extra_158 : Builder.Extra Tryz.prog Tryz.lays158_ren:={
 sizeBuilder:=by kernel_rfl
 liesBuilder:=by kernel_rfl
 t5:=underlying5, a5:=isAgg5, z5:=sizeOf5,v5:=zeroValue5
 infoByte:=by kernel_rfl
 cellsByte:=by kernel_rfl
 sizeByte:=by kernel_rfl
 neB5:=by decide }
open Go.RowKit in
theorem Tryz.strings_ToUpper_ascii (s : ByteArray) (w : World) (hs : s.size ≤ 140737488355328) (hascii : ∀ (j : Nat) (b : UInt8), s.data.toList[j]? = some b → b.toNat < 128) :
 Calls Tryz.prog 123 #[.string s] w fun e w' => e = .returned (.string ⟨(Lib.toUpperA s.data.toList).toArray⟩) ∧ Below w.heap.size w w':=Any.strings_ToUpper_ascii Tryz.lays158 Tryz.Builder_Extra_158 s w hs hascii
def Tryz.lays159_ren : Ren:=⟨fun | 159 => 132 | 165 => 157 | 166 => 127 | 167 => 130 | 169 => 129 | 230 => 158 | 204 => 166 | 240 => 164 | 241 => 184 | 197 => 185 | 118 => 186 | 168 => 187 | 270 => 188 | 262 => 189 | 276 => 196 | 277 => 206 | 260 => 207 | 242 => 208 | 313 => 209 | 278 => 220 | 274 => 221 | 275 => 222 | n => n, fun | 9 => 9 | 4 => 4 | 3 => 3 | 5 => 5 | 72 => 245 | 0 => 0 | 76 => 247 | 75 => 240 | 107 => 281 | 70 => 243 | 20 => 20 | 37 => 69 | 127 => 283 | 21 => 21 | 105 => 303 | 164 => 314 | 162 => 328 | 203 => 326 | 119 => 149 | 46 => 233 | 139 => 336 | 138 => 335 | 51 => 276 | 160 => 337 | 208 => 350 | 206 => 348 | 80 => 165 | n => n, fun | 13 => 5 | 3 => 9 | 4 => 10 | n => n⟩
theorem Tryz.lays159 : Go.Proofs.Lays.n159 Tryz.prog Tryz.lays159_ren:={
 mixed:=by kernel_rfl
 f118:=func186.trans (cS (by kernel_rfl))
 f159:=func132.trans (cS (by kernel_rfl))
 f165:=func157.trans (cS (by kernel_rfl))
 f166:=func127.trans (cS (by kernel_rfl))
 f167:=func130.trans (cS (by kernel_rfl))
 f168:=func187.trans (cS (by kernel_rfl))
 f169:=func129.trans (cS (by kernel_rfl))
 f197:=func185.trans (cS (by kernel_rfl))
 f204:=func166.trans (cS (by kernel_rfl))
 f230:=func158.trans (cS (by kernel_rfl))
 f240:=func164.trans (cS (by kernel_rfl))
 f241:=func184.trans (cS (by kernel_rfl))
 f242:=func208.trans (cS (by kernel_rfl))
 f260:=func207.trans (cS (by kernel_rfl))
 f262:=func189.trans (cS (by kernel_rfl))
 f270:=func188.trans (cS (by kernel_rfl))
 f274:=func221.trans (cS (by kernel_rfl))
 f275:=func222.trans (cS (by kernel_rfl))
 f276:=func196.trans (cS (by kernel_rfl))
 f277:=func206.trans (cS (by kernel_rfl))
 f278:=func220.trans (cS (by kernel_rfl))
 f313:=func209.trans (cS (by kernel_rfl))
 t0:=underlying0, a0:=isAgg0, z0:=sizeOf0,v0:=zeroValue0
 t3:=underlying3, a3:=isAgg3, z3:=sizeOf3,v3:=zeroValue3
 t4:=underlying4, a4:=isAgg4, z4:=sizeOf4,v4:=zeroValue4
 t5:=underlying5, a5:=isAgg5, z5:=sizeOf5,v5:=zeroValue5
 t9:=underlying9, a9:=isAgg9, z9:=sizeOf9,v9:=zeroValue9
 t20:=underlying20, a20:=isAgg20, z20:=sizeOf20,v20:=zeroValue20
 t21:=underlying21, a21:=isAgg21, z21:=sizeOf21,v21:=zeroValue21
 t37:=underlying69, a37:=isAgg69, z37:=sizeOf69,v37:=zeroValue69
 t46:=underlying233, a46:=isAgg233, z46:=sizeOf233,v46:=zeroValue233
 t51:=underlying276, a51:=isAgg276, z51:=sizeOf276,v51:=zeroValue276
 t70:=underlying243, a70:=isAgg243, z70:=sizeOf243,v70:=zeroValue243
 t72:=underlying245, a72:=isAgg245, z72:=sizeOf245,v72:=zeroValue245
 t75:=underlying240, a75:=isAgg240, z75:=sizeOf240,v75:=zeroValue240
 t76:=underlying247, a76:=isAgg247, z76:=sizeOf247,v76:=zeroValue247
 t105:=underlying303, a105:=isAgg303, z105:=sizeOf303,v105:=zeroValue303
 t107:=underlying281, a107:=isAgg281, z107:=sizeOf281,v107:=zeroValue281
 t119:=underlying149, a119:=isAgg149,z119:=sizeOf149
 t127:=underlying283, a127:=isAgg283, z127:=sizeOf283,v127:=zeroValue283
 t138:=underlying335, a138:=isAgg335, z138:=sizeOf335,v138:=zeroValue335
 t139:=underlying336, a139:=isAgg336, z139:=sizeOf336,v139:=zeroValue336
 t160:=underlying337, a160:=isAgg337, z160:=sizeOf337,v160:=zeroValue337
 t162:=underlying328, a162:=isAgg328, z162:=sizeOf328,v162:=zeroValue328
 t164:=underlying314, a164:=isAgg314, z164:=sizeOf314,v164:=zeroValue314
 t203:=underlying326, a203:=isAgg326, z203:=sizeOf326,v203:=zeroValue326
 t206:=underlying348, a206:=isAgg348, z206:=sizeOf348,v206:=zeroValue348
 t208:=underlying350, a208:=isAgg350, z208:=sizeOf350,v208:=zeroValue350
 g3:=by kernel_rfl
 g4:=by kernel_rfl
 g13:=by kernel_rfl }
theorem Tryz.Builder_Extra_159 : Builder.Extra Tryz.prog Tryz.lays159_ren:={
 sizeBuilder:=by kernel_rfl
 liesBuilder:=by kernel_rfl
 t5:=underlying5, a5:=isAgg5, z5:=sizeOf5,v5:=zeroValue5
 infoByte:=by kernel_rfl
 cellsByte:=by kernel_rfl
 sizeByte:=by kernel_rfl
 neB5:=by decide }
open Go.RowKit in
theorem Tryz.strings_ToLower_ascii (s : ByteArray) (w : World) (hs : s.size ≤ 140737488355328) (hascii : ∀ (j : Nat) (b : UInt8), s.data.toList[j]? = some b → b.toNat < 128) :
 Calls Tryz.prog 132 #[.string s] w fun e w' => e = .returned (.string ⟨(Lib.toLowerA s.data.toList).toArray⟩) ∧ Below w.heap.size w w':=Any.strings_ToLower_ascii Tryz.lays159 Tryz.Builder_Extra_159 s w hs hascii
def Tryz.lays137_ren : Ren:=⟨fun | 137 => 126 | 217 => 163 | 266 => 195 | n => n, fun | 9 => 9 | 5 => 5 | 3 => 3 | n => n, fun | n => n⟩
theorem Tryz.lays137 : Go.Proofs.Lays.n137 Tryz.prog Tryz.lays137_ren:={
 mixed:=by kernel_rfl
 f137:=func126.trans (cS (by kernel_rfl))
 f217:=func163.trans (cS (by kernel_rfl))
 f266:=func195.trans (cS (by kernel_rfl))
 t3:=underlying3, a3:=isAgg3, z3:=sizeOf3,v3:=zeroValue3
 t5:=underlying5, a5:=isAgg5, z5:=sizeOf5,v5:=zeroValue5
 t9:=underlying9, a9:=isAgg9, z9:=sizeOf9,v9:=zeroValue9 }
open Go.RowKit in
theorem Tryz.strings_IndexByte (s : ByteArray) (c : Int) (w : World) :
 Calls Tryz.prog 126 #[.string s, .int .u8 c] w fun e w' => e = .returned (.int .i64 (Lib.indexByte s.data.toList c.toNat.toUInt8)) ∧ w' = w:=Any.strings_IndexByte Tryz.lays137 s c w
def Tryz.laysM171_ren : Ren:=⟨fun | 171 => 71 | 243 => 101 | 246 => 143 | 283 => 169 | 284 => 170 | 285 => 171 | 286 => 172 | 129 => 202 | 317 => 201 | 318 => 203 | 319 => 204 | 320 => 205 | 337 => 218 | 338 => 219 | n => n, fun | 3 => 3 | 9 => 9 | 2 => 2 | 4 => 4 | 171 => 285 | 0 => 0 | 53 => 224 | 37 => 69 | 5 => 5 | 173 => 288 | 212 => 319 | 51 => 276 | 20 => 20 | 213 => 320 | 46 => 233 | 232 => 345 | 233 => 346 | n => n, fun | 17 => 4 | 18 => 11 | 19 => 12 | n => n⟩
theorem Tryz.laysM171 : Go.Proofs.LaysM.n171 Tryz.prog Tryz.laysM171_ren:={
 mixed:=by kernel_rfl
 f129:=func202.trans (cS (by kernel_rfl))
 f171:=func71.trans (cS (by kernel_rfl))
 f243:=func101.trans (cS (by kernel_rfl))
 f246:=func143.trans (cS (by kernel_rfl))
 f283:=func169.trans (cS (by kernel_rfl))
 f284:=func170.trans (cS (by kernel_rfl))
 f285:=func171.trans (cS (by kernel_rfl))
 f286:=func172.trans (cS (by kernel_rfl))
 f317:=func201.trans (cS (by kernel_rfl))
 f318:=func203.trans (cS (by kernel_rfl))
 f319:=func204.trans (cS (by kernel_rfl))
 f320:=func205.trans (cS (by kernel_rfl))
 f337:=func218.trans (cS (by kernel_rfl))
 f338:=func219.trans (cS (by kernel_rfl))
 t0:=underlying0, a0:=isAgg0, z0:=sizeOf0,v0:=zeroValue0
 t2:=underlying2, a2:=isAgg2, z2:=sizeOf2,v2:=zeroValue2
 t3:=underlying3, a3:=isAgg3, z3:=sizeOf3,v3:=zeroValue3
 t4:=underlying4, a4:=isAgg4, z4:=sizeOf4,v4:=zeroValue4
 t5:=underlying5, a5:=isAgg5, z5:=sizeOf5,v5:=zeroValue5
 t9:=underlying9, a9:=isAgg9, z9:=sizeOf9,v9:=zeroValue9
 t20:=underlying20, a20:=isAgg20, z20:=sizeOf20,v20:=zeroValue20
 t37:=underlying69, a37:=isAgg69, z37:=sizeOf69,v37:=zeroValue69
 t46:=underlying233, a46:=isAgg233, z46:=sizeOf233,v46:=zeroValue233
 t51:=underlying276, a51:=isAgg276, z51:=sizeOf276,v51:=zeroValue276
 t53:=underlying224, a53:=isAgg224, z53:=sizeOf224,v53:=zeroValue224
 t171:=underlying285, a171:=isAgg285, z171:=sizeOf285,v171:=zeroValue285
 t173:=underlying288, a173:=isAgg288, z173:=sizeOf288,v173:=zeroValue288
 t212:=underlying319, a212:=isAgg319, z212:=sizeOf319,v212:=zeroValue319
 t213:=underlying320, a213:=isAgg320,z213:=sizeOf320
 t232:=underlying345, a232:=isAgg345, z232:=sizeOf345,v232:=zeroValue345
 t233:=underlying346, a233:=isAgg346, z233:=sizeOf346,v233:=zeroValue346
 g17:=by kernel_rfl
 g18:=by kernel_rfl
 g19:=by kernel_rfl
 i0:=by kernel_rfl
 i2:=by kernel_rfl
 i3:=by kernel_rfl
 i4:=by kernel_rfl
 i5:=by kernel_rfl
 i9:=by kernel_rfl
 i20:=by kernel_rfl
 i37:=by kernel_rfl
 i46:=by kernel_rfl
 i51:=by kernel_rfl
 i53:=by kernel_rfl
 i171:=by kernel_rfl
 i173:=by kernel_rfl
 i212:=by kernel_rfl
 i232:=by kernel_rfl
 i233:=by kernel_rfl
 m17:=by kernel_rfl
 m18:=by kernel_rfl
 m19:=by kernel_rfl }
open Go.RowKit Go.Sort Go.Lib in
theorem Tryz.strconv_Itoa (n : Int) (h0 : -9223372036854775808 ≤ n) (h1 : n ≤ 9223372036854775807) (w : World) (htab : Lib.TabIs Tryz.prog w "internal/strconv.uint64pow10" .u64 Lib.pow10Tab) :
 Calls Tryz.prog 71 #[.int .i64 n] w fun e w' => e = .returned (.string ⟨(Lib.itoa n).toArray⟩) ∧ ∃ k os, w' = grow (w.drewN k) os:=Any.strconv_Itoa Tryz.laysM171 n h0 h1 w htab
def Tryz.laysC174_ren : Ren:=⟨fun | 174 => 125 | 247 => 161 | 245 => 162 | 287 => 190 | 279 => 191 | 280 => 192 | 281 => 193 | 282 => 194 | 321 => 210 | 322 => 211 | 316 => 212 | 171 => 71 | 205 => 213 | 243 => 101 | 246 => 143 | 283 => 169 | 284 => 170 | 285 => 171 | 286 => 172 | 129 => 202 | 317 => 201 | 318 => 203 | 319 => 204 | 320 => 205 | 337 => 218 | 338 => 219 | n => n, fun | 9 => 9 | 3 => 3 | 2 => 2 | 75 => 240 | 85 => 241 | 4 => 4 | 167 => 308 | 5 => 5 | 53 => 224 | 175 => 309 | 46 => 233 | 168 => 311 | 37 => 69 | 0 => 0 | 210 => 331 | 21 => 21 | 127 => 283 | 145 => 342 | 143 => 340 | 171 => 285 | 173 => 288 | 212 => 319 | 51 => 276 | 20 => 20 | 213 => 320 | 232 => 345 | 233 => 346 | 80 => 165 | n => n, fun | 15 => 6 | 16 => 7 | 17 => 4 | 18 => 11 | 19 => 12 | n => n⟩
theorem Tryz.laysC174 : Go.Proofs.LaysC.n174 Tryz.prog Tryz.laysC174_ren:={
 mixed:=by kernel_rfl
 f129:=func202.trans (cS (by kernel_rfl))
 f171:=func71.trans (cS (by kernel_rfl))
 f174:=func125.trans (cS (by kernel_rfl))
 f205:=func213.trans (cS (by kernel_rfl))
 f243:=func101.trans (cS (by kernel_rfl))
 f245:=func162.trans (cS (by kernel_rfl))
 f246:=func143.trans (cS (by kernel_rfl))
 f247:=func161.trans (cS (by kernel_rfl))
 f279:=func191.trans (cS (by kernel_rfl))
 f280:=func192.trans (cS (by kernel_rfl))
 f281:=func193.trans (cS (by kernel_rfl))
 f282:=func194.trans (cS (by kernel_rfl))
 f283:=func169.trans (cS (by kernel_rfl))
 f284:=func170.trans (cS (by kernel_rfl))
 f285:=func171.trans (cS (by kernel_rfl))
 f286:=func172.trans (cS (by kernel_rfl))
 f287:=func190.trans (cS (by kernel_rfl))
 f316:=func212.trans (cS (by kernel_rfl))
 f317:=func201.trans (cS (by kernel_rfl))
 f318:=func203.trans (cS (by kernel_rfl))
 f319:=func204.trans (cS (by kernel_rfl))
 f320:=func205.trans (cS (by kernel_rfl))
 f321:=func210.trans (cS (by kernel_rfl))
 f322:=func211.trans (cS (by kernel_rfl))
 f337:=func218.trans (cS (by kernel_rfl))
 f338:=func219.trans (cS (by kernel_rfl))
 t0:=underlying0, a0:=isAgg0, z0:=sizeOf0,v0:=zeroValue0
 t2:=underlying2, a2:=isAgg2, z2:=sizeOf2,v2:=zeroValue2
 t3:=underlying3, a3:=isAgg3, z3:=sizeOf3,v3:=zeroValue3
 t4:=underlying4, a4:=isAgg4, z4:=sizeOf4,v4:=zeroValue4
 t5:=underlying5, a5:=isAgg5, z5:=sizeOf5,v5:=zeroValue5
 t9:=underlying9, a9:=isAgg9, z9:=sizeOf9,v9:=zeroValue9
 t20:=underlying20, a20:=isAgg20, z20:=sizeOf20,v20:=zeroValue20
 t21:=underlying21, a21:=isAgg21, z21:=sizeOf21,v21:=zeroValue21
 t37:=underlying69, a37:=isAgg69, z37:=sizeOf69,v37:=zeroValue69
 t46:=underlying233, a46:=isAgg233, z46:=sizeOf233,v46:=zeroValue233
 t51:=underlying276, a51:=isAgg276, z51:=sizeOf276,v51:=zeroValue276
 t53:=underlying224, a53:=isAgg224, z53:=sizeOf224,v53:=zeroValue224
 t75:=underlying240, a75:=isAgg240, z75:=sizeOf240,v75:=zeroValue240
 t85:=underlying241, a85:=isAgg241, z85:=sizeOf241,v85:=zeroValue241
 t127:=underlying283, a127:=isAgg283, z127:=sizeOf283,v127:=zeroValue283
 t143:=underlying340, a143:=isAgg340, z143:=sizeOf340,v143:=zeroValue340
 t145:=underlying342, a145:=isAgg342, z145:=sizeOf342,v145:=zeroValue342
 t167:=underlying308, a167:=isAgg308, z167:=sizeOf308,v167:=zeroValue308
 t168:=underlying311, a168:=isAgg311, z168:=sizeOf311,v168:=zeroValue311
 t171:=underlying285, a171:=isAgg285, z171:=sizeOf285,v171:=zeroValue285
 t173:=underlying288, a173:=isAgg288, z173:=sizeOf288,v173:=zeroValue288
 t175:=underlying309, a175:=isAgg309, z175:=sizeOf309,v175:=zeroValue309
 t210:=underlying331, a210:=isAgg331, z210:=sizeOf331,v210:=zeroValue331
 t212:=underlying319, a212:=isAgg319, z212:=sizeOf319,v212:=zeroValue319
 t213:=underlying320, a213:=isAgg320,z213:=sizeOf320
 t232:=underlying345, a232:=isAgg345, z232:=sizeOf345,v232:=zeroValue345
 t233:=underlying346, a233:=isAgg346, z233:=sizeOf346,v233:=zeroValue346
 g15:=by kernel_rfl
 g16:=by kernel_rfl
 g17:=by kernel_rfl
 g18:=by kernel_rfl
 g19:=by kernel_rfl
 t80:=underlying165, a80:=isAgg165, z80:=sizeOf165,v80:=zeroValue165
 i0:=by kernel_rfl
 i2:=by kernel_rfl
 i3:=by kernel_rfl
 i4:=by kernel_rfl
 i5:=by kernel_rfl
 i9:=by kernel_rfl
 i20:=by kernel_rfl
 i21:=by kernel_rfl
 i37:=by kernel_rfl
 i46:=by kernel_rfl
 i51:=by kernel_rfl
 i53:=by kernel_rfl
 i75:=by kernel_rfl
 i80:=by kernel_rfl
 i85:=by kernel_rfl
 i127:=by kernel_rfl
 i143:=by kernel_rfl
 i145:=by kernel_rfl
 i167:=by kernel_rfl
 i168:=by kernel_rfl
 i171:=by kernel_rfl
 i173:=by kernel_rfl
 i175:=by kernel_rfl
 i210:=by kernel_rfl
 i212:=by kernel_rfl
 i232:=by kernel_rfl
 i233:=by kernel_rfl
 m15:=by kernel_rfl
 m16:=by kernel_rfl
 m17:=by kernel_rfl
 m18:=by kernel_rfl
 m19:=by kernel_rfl
 c0:=by kernel_rfl
 c2:=by kernel_rfl
 c3:=by kernel_rfl
 c4:=by kernel_rfl
 c5:=by kernel_rfl
 c9:=by kernel_rfl
 c20:=by kernel_rfl
 c21:=by kernel_rfl
 c37:=by kernel_rfl
 c46:=by kernel_rfl
 c51:=by kernel_rfl
 c53:=by kernel_rfl
 c75:=by kernel_rfl
 c80:=by kernel_rfl
 c85:=by kernel_rfl
 c127:=by kernel_rfl
 c143:=by kernel_rfl
 c145:=by kernel_rfl
 c167:=by kernel_rfl
 c168:=by kernel_rfl
 c171:=by kernel_rfl
 c173:=by kernel_rfl
 c175:=by kernel_rfl
 c210:=by kernel_rfl
 c212:=by kernel_rfl
 c213:=by kernel_rfl
 c232:=by kernel_rfl
 c233:=by kernel_rfl }
open Go.RowKit in
theorem Tryz.strconv_ParseInt_10_at64_ok (s : ByteArray) (hmax : s.size ≤ 9223372036854775806) (v : Int) (h : Lib.parseIntB 64 s.data.toList = .ok v) (w : World) :
 Calls Tryz.prog 125 #[.string s, .int .i64 10, .int .i64 64] w fun e w' => e = .returned (.tuple #[.int .i64 v, .nilIface]) ∧ (w' = w ∨ ∃ t, w' = Lib.bytesWorld w 5 t):=Any.strconv_ParseInt_10_at64_ok Tryz.laysC174 s hmax v h w
open Go.RowKit in
theorem Tryz.strconv_ParseInt_10_at64_range (s : ByteArray) (hlim : s.size ≤ 281474976710656) (h : Lib.parseIntB 64 s.data.toList = .range) (ev : Value) (w : World) (hv : w.cell? ⟨7, 0, none⟩ = some ev) (hev : ev = .nilIface ∨ ∃ te pe, ev = .iface te pe) :
 Calls Tryz.prog 125 #[.string s, .int .i64 10, .int .i64 64] w fun e w' => ∃ N, e = .returned (.tuple #[.int .i64 (Lib.intSat 64 s.data.toList), .iface 311 (.pointer (some ⟨N, 0, none⟩))]) ∧ w.heap.size ≤ N ∧ w'.heap[N]? = some (.cells #[.string ⟨#[80, 97, 114, 115, 101, 73, 110, 116]⟩, .string s, ev] 331 (0, 0)) ∧ Below w.heap.size w w':=Any.strconv_ParseInt_10_at64_range Tryz.laysC174 s hlim h ev w hv hev
def Tryz.lays144_ren : Ren:=⟨fun | 144 => 131 | 143 => 165 | 219 => 197 | 217 => 163 | 225 => 214 | 224 => 215 | 267 => 216 | 266 => 195 | 314 => 223 | n => n, fun | 9 => 9 | 4 => 4 | 3 => 3 | 5 => 5 | 46 => 233 | 146 => 343 | 51 => 276 | n => n, fun | 1 => 8 | n => n⟩
theorem Tryz.lays144 : Go.Proofs.Lays.n144 Tryz.prog Tryz.lays144_ren:={
 mixed:=by kernel_rfl
 f143:=func165.trans (cS (by kernel_rfl))
 f144:=func131.trans (cS (by kernel_rfl))
 f217:=func163.trans (cS (by kernel_rfl))
 f219:=func197.trans (cS (by kernel_rfl))
 f224:=func215.trans (cS (by kernel_rfl))
 f225:=func214.trans (cS (by kernel_rfl))
 f266:=func195.trans (cS (by kernel_rfl))
 f267:=func216.trans (cS (by kernel_rfl))
 f314:=func223.trans (cS (by kernel_rfl))
 t3:=underlying3, a3:=isAgg3, z3:=sizeOf3,v3:=zeroValue3
 t4:=underlying4, a4:=isAgg4, z4:=sizeOf4,v4:=zeroValue4
 t5:=underlying5, a5:=isAgg5, z5:=sizeOf5,v5:=zeroValue5
 t9:=underlying9, a9:=isAgg9, z9:=sizeOf9,v9:=zeroValue9
 t46:=underlying233, a46:=isAgg233, z46:=sizeOf233,v46:=zeroValue233
 t51:=underlying276, a51:=isAgg276, z51:=sizeOf276,v51:=zeroValue276
 t146:=underlying343, a146:=isAgg343, z146:=sizeOf343,v146:=zeroValue343
 g1:=by kernel_rfl }
open Go.RowKit Go.Lib in
theorem Tryz.strings_Contains_one (s : ByteArray) (c : UInt8) (w : World) :
 Calls Tryz.prog 131 #[.string s, .string ⟨#[c]⟩] w fun e w' => e = .returned (.bool (decide (0 ≤ Lib.indexByte s.data.toList c))) ∧ w' = w:=Any.strings_Contains_one Tryz.lays144 s c w
def Tryz.lays99_ren : Ren:=⟨fun | 99 => 124 | 206 => 160 | n => n, fun | 9 => 9 | 4 => 4 | 3 => 3 | n => n, fun | n => n⟩
theorem Tryz.lays99 : Go.Proofs.Lays.n99 Tryz.prog Tryz.lays99_ren:={
 mixed:=by kernel_rfl
 f99:=func124.trans (cS (by kernel_rfl))
 f206:=func160.trans (cS (by kernel_rfl))
 t3:=underlying3, a3:=isAgg3, z3:=sizeOf3,v3:=zeroValue3
 t4:=underlying4, a4:=isAgg4, z4:=sizeOf4,v4:=zeroValue4
 t9:=underlying9, a9:=isAgg9, z9:=sizeOf9,v9:=zeroValue9 }
open Go.RowKit Go.Lib in
theorem Tryz.strings_HasPrefix (s p : ByteArray) (w : World) :
 Calls Tryz.prog 124 #[.string s, .string p] w fun e w' => e = .returned (.bool (Lib.hasPrefix s.data.toList p.data.toList)) ∧ w' = w:=Any.strings_HasPrefix Tryz.lays99 s p w
def Tryz.lays157_ren : Ren:=⟨fun | 157 => 85 | 229 => 121 | 199 => 122 | 261 => 156 | 311 => 182 | 312 => 183 | n => n, fun | 9 => 9 | 31 => 56 | 3 => 3 | 5 => 5 | 4 => 4 | 119 => 149 | 0 => 0 | 40 => 235 | 152 => 273 | 21 => 21 | 154 => 275 | 51 => 276 | 141 => 278 | 196 => 296 | 193 => 293 | 198 => 298 | 49 => 34 | 194 => 294 | 201 => 301 | 226 => 322 | 46 => 233 | 227 => 323 | n => n, fun | 0 => 1 | 6 => 3 | n => n⟩
theorem Tryz.lays157 : Go.Proofs.Lays.n157 Tryz.prog Tryz.lays157_ren:={
 mixed:=by kernel_rfl
 f157:=func85.trans (cS (by kernel_rfl))
 f199:=func122.trans (cS (by kernel_rfl))
 f229:=func121.trans (cS (by kernel_rfl))
 f261:=func156.trans (cS (by kernel_rfl))
 f311:=func182.trans (cS (by kernel_rfl))
 f312:=func183.trans (cS (by kernel_rfl))
 t0:=underlying0, a0:=isAgg0, z0:=sizeOf0,v0:=zeroValue0
 t3:=underlying3, a3:=isAgg3, z3:=sizeOf3,v3:=zeroValue3
 t4:=underlying4, a4:=isAgg4, z4:=sizeOf4,v4:=zeroValue4
 t5:=underlying5, a5:=isAgg5, z5:=sizeOf5,v5:=zeroValue5
 t9:=underlying9, a9:=isAgg9, z9:=sizeOf9,v9:=zeroValue9
 t21:=underlying21, a21:=isAgg21, z21:=sizeOf21,v21:=zeroValue21
 t31:=underlying56, a31:=isAgg56, z31:=sizeOf56,v31:=zeroValue56
 t40:=underlying235, a40:=isAgg235, z40:=sizeOf235,v40:=zeroValue235
 t46:=underlying233, a46:=isAgg233, z46:=sizeOf233,v46:=zeroValue233
 t49:=underlying34, a49:=isAgg34, z49:=sizeOf34,v49:=zeroValue34
 t51:=underlying276, a51:=isAgg276, z51:=sizeOf276,v51:=zeroValue276
 t119:=underlying149, a119:=isAgg149,z119:=sizeOf149
 t141:=underlying278, a141:=isAgg278, z141:=sizeOf278,v141:=zeroValue278
 t152:=underlying273, a152:=isAgg273, z152:=sizeOf273,v152:=zeroValue273
 t154:=underlying275, a154:=isAgg275, z154:=sizeOf275,v154:=zeroValue275
 t193:=underlying293, a193:=isAgg293, z193:=sizeOf293,v193:=zeroValue293
 t194:=underlying294, a194:=isAgg294, z194:=sizeOf294,v194:=zeroValue294
 t196:=underlying296, a196:=isAgg296, z196:=sizeOf296,v196:=zeroValue296
 t198:=underlying298, a198:=isAgg298, z198:=sizeOf298,v198:=zeroValue298
 t201:=underlying301, a201:=isAgg301, z201:=sizeOf301,v201:=zeroValue301
 t226:=underlying322, a226:=isAgg322, z226:=sizeOf322,v226:=zeroValue322
 t227:=underlying323, a227:=isAgg323, z227:=sizeOf323,v227:=zeroValue323
 g0:=by kernel_rfl
 g6:=by kernel_rfl }
open Go.RowKit Go.Lib in
theorem Tryz.strings_Fields (s : ByteArray) (w : World) (hs : s.size < 4294967281) (hascii : ∀ (j : Nat) b, s.data.toList[j]? = some b → b.toNat < 128) (htab : Lib.TabIs Tryz.prog w "strings.asciiSpace" .u8 Lib.asciiSpaceTab) :
 Calls Tryz.prog 85 #[.string s] w fun e w' =>
 e = .returned (.slice (some ⟨w.heap.size, 0, none⟩) (Lib.fields s.data.toList).length (Lib.fields s.data.toList).length) ∧ w' = w.alloc (.cells ((Lib.fields s.data.toList).map fun l => Value.string ⟨l.toArray⟩).toArray 9):=Any.strings_Fields Tryz.lays157 (by kernel_rfl) (by kernel_rfl) s w hs hascii htab
def Tryz.lays107_ren : Ren:=⟨fun | 107 => 73 | 108 => 103 | n => n, fun | 28 => 35 | 3 => 3 | 4 => 4 | 0 => 0 | n => n, fun | n => n⟩
theorem Tryz.lays107 : Go.Proofs.Lays.n107 Tryz.prog Tryz.lays107_ren:={
 mixed:=by kernel_rfl
 f107:=func73.trans (cS (by kernel_rfl))
 f108:=func103.trans (cS (by kernel_rfl))
 t0:=underlying0, a0:=isAgg0, z0:=sizeOf0,v0:=zeroValue0
 t3:=underlying3, a3:=isAgg3, z3:=sizeOf3,v3:=zeroValue3
 t4:=underlying4, a4:=isAgg4, z4:=sizeOf4,v4:=zeroValue4
 t28:=underlying35, a28:=isAgg35, z28:=sizeOf35,v28:=zeroValue35 }
open Go.Lib in
theorem Tryz.slices_Contains_int (b off n c : Nat) (zs : List Int) (x : Int) (w : World) (hz : n ≤ zs.length) (hbig : n ≤ 9223372036854775807) (hc : ∀ j, j < zs.length → w.cell? ⟨b, off + j, none⟩ = some (.int .i64 (zs.getD j 0))) :
 Calls Tryz.prog 73 #[.slice (some ⟨b, off, none⟩) n c, .int .i64 x] w fun e w' => e = .returned (.bool ((zs.take n).contains x)) ∧ w' = w:=Any.slices_Contains_int Tryz.lays107 b off n c zs x w hz hbig hc
open Go.Lib in
theorem Tryz.slices_Contains_int_empty (a : Option Addr) (c : Nat) (x : Int) (w : World) :
 Calls Tryz.prog 73 #[.slice a 0 c, .int .i64 x] w fun e w' => e = .returned (.bool false) ∧ w' = w:=Any.slices_Contains_int_empty Tryz.lays107 a c x w
def Tryz.lays109_ren : Ren:=⟨fun | 109 => 33 | n => n, fun | 31 => 56 | 9 => 9 | 3 => 3 | 0 => 0 | 4 => 4 | n => n, fun | n => n⟩
theorem Tryz.lays109 : Go.Proofs.Lays.n109 Tryz.prog Tryz.lays109_ren:={
 mixed:=by kernel_rfl
 f109:=func33.trans (cS (by kernel_rfl))
 t0:=underlying0, a0:=isAgg0, z0:=sizeOf0,v0:=zeroValue0
 t3:=underlying3, a3:=isAgg3, z3:=sizeOf3,v3:=zeroValue3
 t4:=underlying4, a4:=isAgg4, z4:=sizeOf4,v4:=zeroValue4
 t9:=underlying9, a9:=isAgg9, z9:=sizeOf9,v9:=zeroValue9
 t31:=underlying56, a31:=isAgg56, z31:=sizeOf56,v31:=zeroValue56 }
open Go.Lib in
theorem Tryz.slices_Index_string (b off n c : Nat) (zs : List ByteArray) (x : ByteArray) (w : World) (hz : n ≤ zs.length) (hbig : n ≤ 9223372036854775807) (hc : ∀ j, j < zs.length → w.cell? ⟨b, off + j, none⟩ = some (.string (zs.getD j ByteArray.empty))) :
 Calls Tryz.prog 33 #[.slice (some ⟨b, off, none⟩) n c, .string x] w fun e w' => e = .returned (.int .i64 (Lib.idxOfS (zs.take n) x)) ∧ w' = w:=Any.slices_Index_string Tryz.lays109 b off n c zs x w hz hbig hc
open Go.Lib in
theorem Tryz.slices_Index_string_empty (a : Option Addr) (c : Nat) (x : ByteArray) (w : World) :
 Calls Tryz.prog 33 #[.slice a 0 c, .string x] w fun e w' => e = .returned (.int .i64 (Lib.idxOfS [] x)) ∧ w' = w:=Any.slices_Index_string_empty Tryz.lays109 a c x w
def Tryz.lays110_ren : Ren:=⟨fun | 110 => 102 | 109 => 33 | n => n, fun | 31 => 56 | 9 => 9 | 4 => 4 | 3 => 3 | 0 => 0 | n => n, fun | n => n⟩
theorem Tryz.lays110 : Go.Proofs.Lays.n110 Tryz.prog Tryz.lays110_ren:={
 mixed:=by kernel_rfl
 f109:=func33.trans (cS (by kernel_rfl))
 f110:=func102.trans (cS (by kernel_rfl))
 t0:=underlying0, a0:=isAgg0, z0:=sizeOf0,v0:=zeroValue0
 t3:=underlying3, a3:=isAgg3, z3:=sizeOf3,v3:=zeroValue3
 t4:=underlying4, a4:=isAgg4, z4:=sizeOf4,v4:=zeroValue4
 t9:=underlying9, a9:=isAgg9, z9:=sizeOf9,v9:=zeroValue9
 t31:=underlying56, a31:=isAgg56, z31:=sizeOf56,v31:=zeroValue56 }
open Go.Lib in
theorem Tryz.slices_Contains_string (b off n c : Nat) (zs : List ByteArray) (x : ByteArray) (w : World) (hz : n ≤ zs.length) (hbig : n ≤ 9223372036854775807) (hc : ∀ j, j < zs.length → w.cell? ⟨b, off + j, none⟩ = some (.string (zs.getD j ByteArray.empty))) :
 Calls Tryz.prog 102 #[.slice (some ⟨b, off, none⟩) n c, .string x] w fun e w' => e = .returned (.bool (Lib.containsS (zs.take n) x)) ∧ w' = w:=Any.slices_Contains_string Tryz.lays110 b off n c zs x w hz hbig hc
end Go.Proofs
