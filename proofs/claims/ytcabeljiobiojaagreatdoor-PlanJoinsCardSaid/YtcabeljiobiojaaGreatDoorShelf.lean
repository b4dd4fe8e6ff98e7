/-
  Contracts of the library's functions at this program, off the shelf. Conditions: as each says.
-/
import Derived.Shelf.Strings.OnBuilder
import Derived.Shelf.Small.Strs
import Derived.Shelf.LaysM
import Derived.Shelf.Strconv.Itoa3
import Derived.Shelf.LaysC
import Derived.Shelf.Strconv.ParseIntPublic10
import Derived.Shelf.Strings.Search3
import Derived.Shelf.Strings.Prefix
import Derived.Shelf.Strings.Fields
import Derived.Shelf.Slices.Turned
import Derived.Test.YtcabeljiobiojaaGreatDoorProg
namespace Go.Proofs
open Tryz
theorem Tryz.cS {α:Type _} {a b:α} (h:a=b):some a=some b:=congrArg some h
open Go.Shelf
def Tryz.lays158_ren : Ren:=⟨fun | 158 => 121 | 165 => 155 | 166 => 125 | 167 => 128 | 169 => 127 | 230 => 156 | 203 => 157 | 240 => 162 | 241 => 182 | 197 => 183 | 118 => 184 | 168 => 185 | 270 => 186 | 262 => 187 | 276 => 194 | 277 => 204 | 260 => 205 | 242 => 206 | 313 => 207 | 278 => 218 | 274 => 219 | 275 => 220 | n => n, fun | 9 => 9 | 4 => 4 | 3 => 3 | 5 => 5 | 72 => 242 | 0 => 0 | 76 => 244 | 75 => 237 | 107 => 278 | 70 => 240 | 20 => 20 | 37 => 193 | 127 => 280 | 21 => 21 | 105 => 301 | 164 => 312 | 162 => 326 | 203 => 324 | 119 => 145 | 46 => 230 | 139 => 334 | 138 => 333 | 51 => 273 | 160 => 335 | 208 => 348 | 206 => 346 | 80 => 161 | n => n, fun | 13 => 5 | 3 => 9 | 4 => 10 | n => n⟩
theorem Tryz.lays158 : Go.Proofs.Lays.n158 Tryz.prog Tryz.lays158_ren:={
 mixed:=by kernel_rfl
 f118:=func184.trans (cS (by kernel_rfl))
 f158:=func121.trans (cS (by kernel_rfl))
 f165:=func155.trans (cS (by kernel_rfl))
 f166:=func125.trans (cS (by kernel_rfl))
 f167:=func128.trans (cS (by kernel_rfl))
 f168:=func185.trans (cS (by kernel_rfl))
 f169:=func127.trans (cS (by kernel_rfl))
 f197:=func183.trans (cS (by kernel_rfl))
 f203:=func157.trans (cS (by kernel_rfl))
 f230:=func156.trans (cS (by kernel_rfl))
 f240:=func162.trans (cS (by kernel_rfl))
 f241:=func182.trans (cS (by kernel_rfl))
 f242:=func206.trans (cS (by kernel_rfl))
 f260:=func205.trans (cS (by kernel_rfl))
 f262:=func187.trans (cS (by kernel_rfl))
 f270:=func186.trans (cS (by kernel_rfl))
 f274:=func219.trans (cS (by kernel_rfl))
 f275:=func220.trans (cS (by kernel_rfl))
 f276:=func194.trans (cS (by kernel_rfl))
 f277:=func204.trans (cS (by kernel_rfl))
 f278:=func218.trans (cS (by kernel_rfl))
 f313:=func207.trans (cS (by kernel_rfl))
 t0:=underlying0, a0:=isAgg0, z0:=sizeOf0,v0:=zeroValue0
 t3:=underlying3, a3:=isAgg3, z3:=sizeOf3,v3:=zeroValue3
 t4:=underlying4, a4:=isAgg4, z4:=sizeOf4,v4:=zeroValue4
 t5:=underlying5, a5:=isAgg5, z5:=sizeOf5,v5:=zeroValue5
 t9:=underlying9, a9:=isAgg9, z9:=sizeOf9,v9:=zeroValue9
 t20:=underlying20, a20:=isAgg20, z20:=sizeOf20,v20:=zeroValue20
 t21:=underlying21, a21:=isAgg21, z21:=sizeOf21,v21:=zeroValue21
 t37:=underlying193, a37:=isAgg193, z37:=sizeOf193,v37:=zeroValue193
 t46:=underlying230, a46:=isAgg230, z46:=sizeOf230,v46:=zeroValue230
 t51:=underlying273, a51:=isAgg273, z51:=sizeOf273,v51:=zeroValue273
 t70:=underlying240, a70:=isAgg240, z70:=sizeOf240,v70:=zeroValue240
 t72:=underlying242, a72:=isAgg242, z72:=sizeOf242,v72:=zeroValue242
 t75:=underlying237, a75:=isAgg237, z75:=sizeOf237,v75:=zeroValue237
 t76:=underlying244, a76:=isAgg244, z76:=sizeOf244,v76:=zeroValue244
 t105:=underlying301, a105:=isAgg301, z105:=sizeOf301,v105:=zeroValue301
 t107:=underlying278, a107:=isAgg278, z107:=sizeOf278,v107:=zeroValue278
 t119:=underlying145, a119:=isAgg145,z119:=sizeOf145
 t127:=underlying280, a127:=isAgg280, z127:=sizeOf280,v127:=zeroValue280
 t138:=underlying333, a138:=isAgg333, z138:=sizeOf333,v138:=zeroValue333
 t139:=underlying334, a139:=isAgg334, z139:=sizeOf334,v139:=zeroValue334
 t160:=underlying335, a160:=isAgg335, z160:=sizeOf335,v160:=zeroValue335
 t162:=underlying326, a162:=isAgg326, z162:=sizeOf326,v162:=zeroValue326
 t164:=underlying312, a164:=isAgg312, z164:=sizeOf312,v164:=zeroValue312
 t203:=underlying324, a203:=isAgg324, z203:=sizeOf324,v203:=zeroValue324
 t206:=underlying346, a206:=isAgg346, z206:=sizeOf346,v206:=zeroValue346
 t208:=underlying348, a208:=isAgg348, z208:=sizeOf348,v208:=zeroValue348
 g3:=by kernel_rfl
 g4:=by kernel_rfl
 g13:=by kernel_rfl }
theorem Tryz.Builder_Extra_158 : Builder.Extra Tryz.prog Tryz.lays158_ren:={
 sizeBuilder:=by kernel_rfl
 liesBuilder:=by kernel_rfl
 t5:=underlying5, a5:=isAgg5, z5:=sizeOf5,v5:=zeroValue5
 infoByte:=by kernel_rfl
 cellsByte:=by kernel_rfl
 sizeByte:=by kernel_rfl
 neB5:=by decide }
open Go.RowKit in
theorem Tryz.strings_ToUpper_ascii (s : ByteArray) (w : World) (hs : s.size ≤ 140737488355328) (hascii : ∀ (j : Nat) (b : UInt8), s.data.toList[j]? = some b → b.toNat < 128) :
 Calls Tryz.prog 121 #[.string s] w fun e w' => e = .returned (.string ⟨(Lib.toUpperA s.data.toList).toArray⟩) ∧ Below w.heap.size w w':=Any.strings_ToUpper_ascii Tryz.lays158 Tryz.Builder_Extra_158 s w hs hascii
def Tryz.lays159_ren : Ren:=⟨fun | 159 => 130 | 165 => 155 | 166 => 125 | 167 => 128 | 169 => 127 | 230 => 156 | 204 => 164 | 240 => 162 | 241 => 182 | 197 => 183 | 118 => 184 | 168 => 185 | 270 => 186 | 262 => 187 | 276 => 194 | 277 => 204 | 260 => 205 | 242 => 206 | 313 => 207 | 278 => 218 | 274 => 219 | 275 => 220 | n => n, fun | 9 => 9 | 4 => 4 | 3 => 3 | 5 => 5 | 72 => 242 | 0 => 0 | 76 => 244 | 75 => 237 | 107 => 278 | 70 => 240 | 20 => 20 | 37 => 193 | 127 => 280 | 21 => 21 | 105 => 301 | 164 => 312 | 162 => 326 | 203 => 324 | 119 => 145 | 46 => 230 | 139 => 334 | 138 => 333 | 51 => 273 | 160 => 335 | 208 => 348 | 206 => 346 | 80 => 161 | n => n, fun | 13 => 5 | 3 => 9 | 4 => 10 | n => n⟩
theorem Tryz.lays159 : Go.Proofs.Lays.n159 Tryz.prog Tryz.lays159_ren:={
 mixed:=by kernel_rfl
 f118:=func184.trans (cS (by kernel_rfl))
 f159:=func130.trans (cS (by kernel_rfl))
 f165:=func155.trans (cS (by kernel_rfl))
 f166:=func125.trans (cS (by kernel_rfl))
 f167:=func128.trans (cS (by kernel_rfl))
 f168:=func185.trans (cS (by kernel_rfl))
 f169:=func127.trans (cS (by kernel_rfl))
 f197:=func183.trans (cS (by kernel_rfl))
 f204:=func164.trans (cS (by kernel_rfl))
 f230:=func156.trans (cS (by kernel_rfl))
 f240:=func162.trans (cS (by kernel_rfl))
 f241:=func182.trans (cS (by kernel_rfl))
 f242:=func206.trans (cS (by kernel_rfl))
 f260:=func205.trans (cS (by kernel_rfl))
 f262:=func187.trans (cS (by kernel_rfl))
 f270:=func186.trans (cS (by kernel_rfl))
 f274:=func219.trans (cS (by kernel_rfl))
 f275:=func220.trans (cS (by kernel_rfl))
 f276:=func194.trans (cS (by kernel_rfl))
 f277:=func204.trans (cS (by kernel_rfl))
 f278:=func218.trans (cS (by kernel_rfl))
 f313:=func207.trans (cS (by kernel_rfl))
 t0:=underlying0, a0:=isAgg0, z0:=sizeOf0,v0:=zeroValue0
 t3:=underlying3, a3:=isAgg3, z3:=sizeOf3,v3:=zeroValue3
 t4:=underlying4, a4:=isAgg4, z4:=sizeOf4,v4:=zeroValue4
 t5:=underlying5, a5:=isAgg5, z5:=sizeOf5,v5:=zeroValue5
 t9:=underlying9, a9:=isAgg9, z9:=sizeOf9,v9:=zeroValue9
 t20:=underlying20, a20:=isAgg20, z20:=sizeOf20,v20:=zeroValue20
 t21:=underlying21, a21:=isAgg21, z21:=sizeOf21,v21:=zeroValue21
 t37:=underlying193, a37:=isAgg193, z37:=sizeOf193,v37:=zeroValue193
 t46:=underlying230, a46:=isAgg230, z46:=sizeOf230,v46:=zeroValue230
 t51:=underlying273, a51:=isAgg273, z51:=sizeOf273,v51:=zeroValue273
 t70:=underlying240, a70:=isAgg240, z70:=sizeOf240,v70:=zeroValue240
 t72:=underlying242, a72:=isAgg242, z72:=sizeOf242,v72:=zeroValue242
 t75:=underlying237, a75:=isAgg237, z75:=sizeOf237,v75:=zeroValue237
 t76:=underlying244, a76:=isAgg244, z76:=sizeOf244,v76:=zeroValue244
 t105:=underlying301, a105:=isAgg301, z105:=sizeOf301,v105:=zeroValue301
 t107:=underlying278, a107:=isAgg278, z107:=sizeOf278,v107:=zeroValue278
 t119:=underlying145, a119:=isAgg145,z119:=sizeOf145
 t127:=underlying280, a127:=isAgg280, z127:=sizeOf280,v127:=zeroValue280
 t138:=underlying333, a138:=isAgg333, z138:=sizeOf333,v138:=zeroValue333
 t139:=underlying334, a139:=isAgg334, z139:=sizeOf334,v139:=zeroValue334
 t160:=underlying335, a160:=isAgg335, z160:=sizeOf335,v160:=zeroValue335
 t162:=underlying326, a162:=isAgg326, z162:=sizeOf326,v162:=zeroValue326
 t164:=underlying312, a164:=isAgg312, z164:=sizeOf312,v164:=zeroValue312
 t203:=underlying324, a203:=isAgg324, z203:=sizeOf324,v203:=zeroValue324
 t206:=underlying346, a206:=isAgg346, z206:=sizeOf346,v206:=zeroValue346
 t208:=underlying348, a208:=isAgg348, z208:=sizeOf348,v208:=zeroValue348
 g3:=by kernel_rfl
 g4:=by kernel_rfl
 g13:=by kernel_rfl }
theorem Tryz.Builder_Extra_159 : Builder.Extra Tryz.prog Tryz.lays159_ren:={
 sizeBuilder:=by kernel_rfl
 liesBuilder:=by kernel_rfl
 t5:=underlying5, a5:=isAgg5, z5:=sizeOf5,v5:=zeroValue5
 infoByte:=by kernel_rfl
 cellsByte:=by kernel_rfl
 sizeByte:=by kernel_rfl
 neB5:=by decide }
open Go.RowKit in
theorem Tryz.strings_ToLower_ascii (s : ByteArray) (w : World) (hs : s.size ≤ 140737488355328) (hascii : ∀ (j : Nat) (b : UInt8), s.data.toList[j]? = some b → b.toNat < 128) :
 Calls Tryz.prog 130 #[.string s] w fun e w' => e = .returned (.string ⟨(Lib.toLowerA s.data.toList).toArray⟩) ∧ Below w.heap.size w w':=Any.strings_ToLower_ascii Tryz.lays159 Tryz.Builder_Extra_159 s w hs hascii
def Tryz.lays137_ren : Ren:=⟨fun | 137 => 124 | 217 => 161 | 266 => 193 | n => n, fun | 9 => 9 | 5 => 5 | 3 => 3 | n => n, fun | n => n⟩
theorem Tryz.lays137 : Go.Proofs.Lays.n137 Tryz.prog Tryz.lays137_ren:={
 mixed:=by kernel_rfl
 f137:=func124.trans (cS (by kernel_rfl))
 f217:=func161.trans (cS (by kernel_rfl))
 f266:=func193.trans (cS (by kernel_rfl))
 t3:=underlying3, a3:=isAgg3, z3:=sizeOf3,v3:=zeroValue3
 t5:=underlying5, a5:=isAgg5, z5:=sizeOf5,v5:=zeroValue5
 t9:=underlying9, a9:=isAgg9, z9:=sizeOf9,v9:=zeroValue9 }
open Go.RowKit in
theorem Tryz.strings_IndexByte (s : ByteArray) (c : Int) (w : World) :
 Calls Tryz.prog 124 #[.string s, .int .u8 c] w fun e w' => e = .returned (.int .i64 (Lib.indexByte s.data.toList c.toNat.toUInt8)) ∧ w' = w:=Any.strings_IndexByte Tryz.lays137 s c w
def Tryz.laysM171_ren : Ren:=⟨fun | 171 => 69 | 243 => 99 | 246 => 141 | 283 => 167 | 284 => 168 | 285 => 169 | 286 => 170 | 129 => 200 | 317 => 199 | 318 => 201 | 319 => 202 | 320 => 203 | 337 => 216 | 338 => 217 | n => n, fun | 3 => 3 | 9 => 9 | 2 => 2 | 4 => 4 | 171 => 282 | 0 => 0 | 53 => 221 | 37 => 193 | 5 => 5 | 173 => 285 | 212 => 317 | 51 => 273 | 20 => 20 | 213 => 318 | 46 => 230 | 232 => 343 | 233 => 344 | n => n, fun | 17 => 4 | 18 => 11 | 19 => 12 | n => n⟩
theorem Tryz.laysM171 : Go.Proofs.LaysM.n171 Tryz.prog Tryz.laysM171_ren:={
 mixed:=by kernel_rfl
 f129:=func200.trans (cS (by kernel_rfl))
 f171:=func69.trans (cS (by kernel_rfl))
 f243:=func99.trans (cS (by kernel_rfl))
 f246:=func141.trans (cS (by kernel_rfl))
 f283:=func167.trans (cS (by kernel_rfl))
 f284:=func168.trans (cS (by kernel_rfl))
 f285:=func169.trans (cS (by kernel_rfl))
 f286:=func170.trans (cS (by kernel_rfl))
 f317:=func199.trans (cS (by kernel_rfl))
 f318:=func201.trans (cS (by kernel_rfl))
 f319:=func202.trans (cS (by kernel_rfl))
 f320:=func203.trans (cS (by kernel_rfl))
 f337:=func216.trans (cS (by kernel_rfl))
 f338:=func217.trans (cS (by kernel_rfl))
 t0:=underlying0, a0:=isAgg0, z0:=sizeOf0,v0:=zeroValue0
 t2:=underlying2, a2:=isAgg2, z2:=sizeOf2,v2:=zeroValue2
 t3:=underlying3, a3:=isAgg3, z3:=sizeOf3,v3:=zeroValue3
 t4:=underlying4, a4:=isAgg4, z4:=sizeOf4,v4:=zeroValue4
 t5:=underlying5, a5:=isAgg5, z5:=sizeOf5,v5:=zeroValue5
 t9:=underlying9, a9:=isAgg9, z9:=sizeOf9,v9:=zeroValue9
 t20:=underlying20, a20:=isAgg20, z20:=sizeOf20,v20:=zeroValue20
 t37:=underlying193, a37:=isAgg193, z37:=sizeOf193,v37:=zeroValue193
 t46:=underlying230, a46:=isAgg230, z46:=sizeOf230,v46:=zeroValue230
 t51:=underlying273, a51:=isAgg273, z51:=sizeOf273,v51:=zeroValue273
 t53:=underlying221, a53:=isAgg221, z53:=sizeOf221,v53:=zeroValue221
 t171:=underlying282, a171:=isAgg282, z171:=sizeOf282,v171:=zeroValue282
 t173:=underlying285, a173:=isAgg285, z173:=sizeOf285,v173:=zeroValue285
 t212:=underlying317, a212:=isAgg317, z212:=sizeOf317,v212:=zeroValue317
 t213:=underlying318, a213:=isAgg318,z213:=sizeOf318
 t232:=underlying343, a232:=isAgg343, z232:=sizeOf343,v232:=zeroValue343
 t233:=underlying344, a233:=isAgg344, z233:=sizeOf344,v233:=zeroValue344
 g17:=by kernel_rfl
 g18:=by kernel_rfl
 g19:=by kernel_rfl
 i0:=by kernel_rfl
 i2:=by kernel_rfl
 i3:=by kernel_rfl
 i4:=by kernel_rfl
 i5:=by kernel_rfl
 i9:=by kernel_rfl
 i20:=by kernel_rfl
 i37:=by kernel_rfl
 i46:=by kernel_rfl
 i51:=by kernel_rfl
 i53:=by kernel_rfl
 i171:=by kernel_rfl
 i173:=by kernel_rfl
 i212:=by kernel_rfl
 i232:=by kernel_rfl
 i233:=by kernel_rfl
 m17:=by kernel_rfl
 m18:=by kernel_rfl
 m19:=by kernel_rfl }
open Go.RowKit Go.Sort Go.Lib in
theorem Tryz.strconv_Itoa (n : Int) (h0 : -9223372036854775808 ≤ n) (h1 : n ≤ 9223372036854775807) (w : World) (htab : Lib.TabIs Tryz.prog w "internal/strconv.uint64pow10" .u64 Lib.pow10Tab) :
 Calls Tryz.prog 69 #[.int .i64 n] w fun e w' => e = .returned (.string ⟨(Lib.itoa n).toArray⟩) ∧ ∃ k os, w' = grow (w.drewN k) os:=Any.strconv_Itoa Tryz.laysM171 n h0 h1 w htab
def Tryz.laysC174_ren : Ren:=⟨fun | 174 => 123 | 247 => 159 | 245 => 160 | 287 => 188 | 279 => 189 | 280 => 190 | 281 => 191 | 282 => 192 | 321 => 208 | 322 => 209 | 316 => 210 | 171 => 69 | 205 => 211 | 243 => 99 | 246 => 141 | 283 => 167 | 284 => 168 | 285 => 169 | 286 => 170 | 129 => 200 | 317 => 199 | 318 => 201 | 319 => 202 | 320 => 203 | 337 => 216 | 338 => 217 | n => n, fun | 9 => 9 | 3 => 3 | 2 => 2 | 75 => 237 | 85 => 238 | 4 => 4 | 167 => 306 | 5 => 5 | 53 => 221 | 175 => 307 | 46 => 230 | 168 => 309 | 37 => 193 | 0 => 0 | 210 => 329 | 21 => 21 | 127 => 280 | 145 => 340 | 143 => 338 | 171 => 282 | 173 => 285 | 212 => 317 | 51 => 273 | 20 => 20 | 213 => 318 | 232 => 343 | 233 => 344 | 80 => 161 | n => n, fun | 15 => 6 | 16 => 7 | 17 => 4 | 18 => 11 | 19 => 12 | n => n⟩
theorem Tryz.laysC174 : Go.Proofs.LaysC.n174 Tryz.prog Tryz.laysC174_ren:={
 mixed:=by kernel_rfl
 f129:=func200.trans (cS (by kernel_rfl))
 f171:=func69.trans (cS (by kernel_rfl))
 f174:=func123.trans (cS (by kernel_rfl))
 f205:=func211.trans (cS (by kernel_rfl))
 f243:=func99.trans (cS (by kernel_rfl))
 f245:=func160.trans (cS (by kernel_rfl))
 f246:=func141.trans (cS (by kernel_rfl))
 f247:=func159.trans (cS (by kernel_rfl))
 f279:=func189.trans (cS (by kernel_rfl))
 f280:=func190.trans (cS (by kernel_rfl))
 f281:=func191.trans (cS (by kernel_rfl))
 f282:=func192.trans (cS (by kernel_rfl))
 f283:=func167.trans (cS (by kernel_rfl))
 f284:=func168.trans (cS (by kernel_rfl))
 f285:=func169.trans (cS (by kernel_rfl))
 f286:=func170.trans (cS (by kernel_rfl))
 f287:=func188.trans (cS (by kernel_rfl))
 f316:=func210.trans (cS (by kernel_rfl))
 f317:=func199.trans (cS (by kernel_rfl))
 f318:=func201.trans (cS (by kernel_rfl))
 f319:=func202.trans (cS (by kernel_rfl))
 f320:=func203.trans (cS (by kernel_rfl))
 f321:=func208.trans (cS (by kernel_rfl))
 f322:=func209.trans (cS (by kernel_rfl))
 f337:=func216.trans (cS (by kernel_rfl))
 f338:=func217.trans (cS (by kernel_rfl))
 t0:=underlying0, a0:=isAgg0, z0:=sizeOf0,v0:=zeroValue0
 t2:=underlying2, a2:=isAgg2, z2:=sizeOf2,v2:=zeroValue2
 t3:=underlying3, a3:=isAgg3, z3:=sizeOf3,v3:=zeroValue3
 t4:=underlying4, a4:=isAgg4, z4:=sizeOf4,v4:=zeroValue4
 t5:=underlying5, a5:=isAgg5, z5:=sizeOf5,v5:=zeroValue5
 t9:=underlying9, a9:=isAgg9, z9:=sizeOf9,v9:=zeroValue9
 t20:=underlying20, a20:=isAgg20, z20:=sizeOf20,v20:=zeroValue20
 t21:=underlying21, a21:=isAgg21, z21:=sizeOf21,v21:=zeroValue21
 t37:=underlying193, a37:=isAgg193, z37:=sizeOf193,v37:=zeroValue193
 t46:=underlying230, a46:=isAgg230, z46:=sizeOf230,v46:=zeroValue230
 t51:=underlying273, a51:=isAgg273, z51:=sizeOf273,v51:=zeroValue273
 t53:=underlying221, a53:=isAgg221, z53:=sizeOf221,v53:=zeroValue221
 t75:=underlying237, a75:=isAgg237, z75:=sizeOf237,v75:=zeroValue237
 t85:=underlying238, a85:=isAgg238, z85:=sizeOf238,v85:=zeroValue238
 t127:=underlying280, a127:=isAgg280, z127:=sizeOf280,v127:=zeroValue280
 t143:=underlying338, a143:=isAgg338, z143:=sizeOf338,v143:=zeroValue338
 t145:=underlying340, a145:=isAgg340, z145:=sizeOf340,v145:=zeroValue340
 t167:=underlying306, a167:=isAgg306, z167:=sizeOf306,v167:=zeroValue306
 t168:=underlying309, a168:=isAgg309, z168:=sizeOf309,v168:=zeroValue309
 t171:=underlying282, a171:=isAgg282, z171:=sizeOf282,v171:=zeroValue282
 t173:=underlying285, a173:=isAgg285, z173:=sizeOf285,v173:=zeroValue285
 t175:=underlying307, a175:=isAgg307, z175:=sizeOf307,v175:=zeroValue307
 t210:=underlying329, a210:=isAgg329, z210:=sizeOf329,v210:=zeroValue329
 t212:=underlying317, a212:=isAgg317, z212:=sizeOf317,v212:=zeroValue317
 t213:=underlying318, a213:=isAgg318,z213:=sizeOf318
 t232:=underlying343, a232:=isAgg343, z232:=sizeOf343,v232:=zeroValue343
 t233:=underlying344, a233:=isAgg344, z233:=sizeOf344,v233:=zeroValue344
 g15:=by kernel_rfl
 g16:=by kernel_rfl
 g17:=by kernel_rfl
 g18:=by kernel_rfl
 g19:=by kernel_rfl
 t80:=underlying161, a80:=isAgg161, z80:=sizeOf161,v80:=zeroValue161
 i0:=by kernel_rfl
 i2:=by kernel_rfl
 i3:=by kernel_rfl
 i4:=by kernel_rfl
 i5:=by kernel_rfl
 i9:=by kernel_rfl
 i20:=by kernel_rfl
 i21:=by kernel_rfl
 i37:=by kernel_rfl
 i46:=by kernel_rfl
 i51:=by kernel_rfl
 i53:=by kernel_rfl
 i75:=by kernel_rfl
 i80:=by kernel_rfl
 i85:=by kernel_rfl
 i127:=by kernel_rfl
 i143:=by kernel_rfl
 i145:=by kernel_rfl
 i167:=by kernel_rfl
 i168:=by kernel_rfl
 i171:=by kernel_rfl
 i173:=by kernel_rfl
 i175:=by kernel_rfl
 i210:=by kernel_rfl
 i212:=by kernel_rfl
 i232:=by kernel_rfl
 i233:=by kernel_rfl
 m15:=by kernel_rfl
 m16:=by kernel_rfl
 m17:=by kernel_rfl
 m18:=by kernel_rfl
 m19:=by kernel_rfl
 c0:=by kernel_rfl
 c2:=by kernel_rfl
 c3:=by kernel_rfl
 c4:=by kernel_rfl
 c5:=by kernel_rfl
 c9:=by kernel_rfl
 c20:=by kernel_rfl
 c21:=by kernel_rfl
 c37:=by kernel_rfl
 c46:=by kernel_rfl
 c51:=by kernel_rfl
 c53:=by kernel_rfl
 c75:=by kernel_rfl
 c80:=by kernel_rfl
 c85:=by kernel_rfl
 c127:=by kernel_rfl
 c143:=by kernel_rfl
 c145:=by kernel_rfl
 c167:=by kernel_rfl
 c168:=by kernel_rfl
 c171:=by kernel_rfl
 c173:=by kernel_rfl
 c175:=by kernel_rfl
 c210:=by kernel_rfl
 c212:=by kernel_rfl
 c213:=by kernel_rfl
 c232:=by kernel_rfl
 c233:=by kernel_rfl }
open Go.RowKit in
theorem Tryz.strconv_ParseInt_10_at64_ok (s : ByteArray) (hmax : s.size ≤ 9223372036854775806) (v : Int) (h : Lib.parseIntB 64 s.data.toList = .ok v) (w : World) :
 Calls Tryz.prog 123 #[.string s, .int .i64 10, .int .i64 64] w fun e w' => e = .returned (.tuple #[.int .i64 v, .nilIface]) ∧ (w' = w ∨ ∃ t, w' = Lib.bytesWorld w 5 t):=Any.strconv_ParseInt_10_at64_ok Tryz.laysC174 s hmax v h w
open Go.RowKit in
theorem Tryz.strconv_ParseInt_10_at64_range (s : ByteArray) (hlim : s.size ≤ 281474976710656) (h : Lib.parseIntB 64 s.data.toList = .range) (ev : Value) (w : World) (hv : w.cell? ⟨7, 0, none⟩ = some ev) (hev : ev = .nilIface ∨ ∃ te pe, ev = .iface te pe) :
 Calls Tryz.prog 123 #[.string s, .int .i64 10, .int .i64 64] w fun e w' => ∃ N, e = .returned (.tuple #[.int .i64 (Lib.intSat 64 s.data.toList), .iface 309 (.pointer (some ⟨N, 0, none⟩))]) ∧ w.heap.size ≤ N ∧ w'.heap[N]? = some (.cells #[.string ⟨#[80, 97, 114, 115, 101, 73, 110, 116]⟩, .string s, ev] 329 (0, 0)) ∧ Below w.heap.size w w':=Any.strconv_ParseInt_10_at64_range Tryz.laysC174 s hlim h ev w hv hev
def Tryz.lays144_ren : Ren:=⟨fun | 144 => 129 | 143 => 163 | 219 => 195 | 217 => 161 | 225 => 212 | 224 => 213 | 267 => 214 | 266 => 193 | 314 => 221 | n => n, fun | 9 => 9 | 4 => 4 | 3 => 3 | 5 => 5 | 46 => 230 | 146 => 341 | 51 => 273 | n => n, fun | 1 => 8 | n => n⟩
theorem Tryz.lays144 : Go.Proofs.Lays.n144 Tryz.prog Tryz.lays144_ren:={
 mixed:=by kernel_rfl
 f143:=func163.trans (cS (by kernel_rfl))
 f144:=func129.trans (cS (by kernel_rfl))
 f217:=func161.trans (cS (by kernel_rfl))
 f219:=func195.trans (cS (by kernel_rfl))
 f224:=func213.trans (cS (by kernel_rfl))
 f225:=func212.trans (cS (by kernel_rfl))
 f266:=func193.trans (cS (by kernel_rfl))
 f267:=func214.trans (cS (by kernel_rfl))
 f314:=func221.trans (cS (by kernel_rfl))
 t3:=underlying3, a3:=isAgg3, z3:=sizeOf3,v3:=zeroValue3
 t4:=underlying4, a4:=isAgg4, z4:=sizeOf4,v4:=zeroValue4
 t5:=underlying5, a5:=isAgg5, z5:=sizeOf5,v5:=zeroValue5
 t9:=underlying9, a9:=isAgg9, z9:=sizeOf9,v9:=zeroValue9
 t46:=underlying230, a46:=isAgg230, z46:=sizeOf230,v46:=zeroValue230
 t51:=underlying273, a51:=isAgg273, z51:=sizeOf273,v51:=zeroValue273
 t146:=underlying341, a146:=isAgg341, z146:=sizeOf341,v146:=zeroValue341
 g1:=by kernel_rfl }
open Go.RowKit Go.Lib in
theorem Tryz.strings_Contains_one (s : ByteArray) (c : UInt8) (w : World) :
 Calls Tryz.prog 129 #[.string s, .string ⟨#[c]⟩] w fun e w' => e = .returned (.bool (decide (0 ≤ Lib.indexByte s.data.toList c))) ∧ w' = w:=Any.strings_Contains_one Tryz.lays144 s c w
def Tryz.lays99_ren : Ren:=⟨fun | 99 => 122 | 206 => 158 | n => n, fun | 9 => 9 | 4 => 4 | 3 => 3 | n => n, fun | n => n⟩
theorem Tryz.lays99 : Go.Proofs.Lays.n99 Tryz.prog Tryz.lays99_ren:={
 mixed:=by kernel_rfl
 f99:=func122.trans (cS (by kernel_rfl))
 f206:=func158.trans (cS (by kernel_rfl))
 t3:=underlying3, a3:=isAgg3, z3:=sizeOf3,v3:=zeroValue3
 t4:=underlying4, a4:=isAgg4, z4:=sizeOf4,v4:=zeroValue4
 t9:=underlying9, a9:=isAgg9, z9:=sizeOf9,v9:=zeroValue9 }
open Go.RowKit Go.Lib in
theorem Tryz.strings_HasPrefix (s p : ByteArray) (w : World) :
 Calls Tryz.prog 122 #[.string s, .string p] w fun e w' => e = .returned (.bool (Lib.hasPrefix s.data.toList p.data.toList)) ∧ w' = w:=Any.strings_HasPrefix Tryz.lays99 s p w
def Tryz.lays157_ren : Ren:=⟨fun | 157 => 83 | 229 => 119 | 199 => 120 | 261 => 154 | 311 => 180 | 312 => 181 | n => n, fun | 9 => 9 | 31 => 53 | 3 => 3 | 5 => 5 | 4 => 4 | 119 => 145 | 0 => 0 | 40 => 232 | 152 => 270 | 21 => 21 | 154 => 272 | 51 => 273 | 141 => 275 | 196 => 293 | 193 => 290 | 198 => 296 | 49 => 294 | 194 => 291 | 201 => 299 | 226 => 320 | 46 => 230 | 227 => 321 | n => n, fun | 0 => 1 | 6 => 3 | n => n⟩
theorem Tryz.lays157 : Go.Proofs.Lays.n157 Tryz.prog Tryz.lays157_ren:={
 mixed:=by kernel_rfl
 f157:=func83.trans (cS (by kernel_rfl))
 f199:=func120.trans (cS (by kernel_rfl))
 f229:=func119.trans (cS (by kernel_rfl))
 f261:=func154.trans (cS (by kernel_rfl))
 f311:=func180.trans (cS (by kernel_rfl))
 f312:=func181.trans (cS (by kernel_rfl))
 t0:=underlying0, a0:=isAgg0, z0:=sizeOf0,v0:=zeroValue0
 t3:=underlying3, a3:=isAgg3, z3:=sizeOf3,v3:=zeroValue3
 t4:=underlying4, a4:=isAgg4, z4:=sizeOf4,v4:=zeroValue4
 t5:=underlying5, a5:=isAgg5, z5:=sizeOf5,v5:=zeroValue5
 t9:=underlying9, a9:=isAgg9, z9:=sizeOf9,v9:=zeroValue9
 t21:=underlying21, a21:=isAgg21, z21:=sizeOf21,v21:=zeroValue21
 t31:=underlying53, a31:=isAgg53, z31:=sizeOf53,v31:=zeroValue53
 t40:=underlying232, a40:=isAgg232, z40:=sizeOf232,v40:=zeroValue232
 t46:=underlying230, a46:=isAgg230, z46:=sizeOf230,v46:=zeroValue230
 t49:=underlying294, a49:=isAgg294, z49:=sizeOf294,v49:=zeroValue294
 t51:=underlying273, a51:=isAgg273, z51:=sizeOf273,v51:=zeroValue273
 t119:=underlying145, a119:=isAgg145,z119:=sizeOf145
 t141:=underlying275, a141:=isAgg275, z141:=sizeOf275,v141:=zeroValue275
 t152:=underlying270, a152:=isAgg270, z152:=sizeOf270,v152:=zeroValue270
 t154:=underlying272, a154:=isAgg272, z154:=sizeOf272,v154:=zeroValue272
 t193:=underlying290, a193:=isAgg290, z193:=sizeOf290,v193:=zeroValue290
 t194:=underlying291, a194:=isAgg291, z194:=sizeOf291,v194:=zeroValue291
 t196:=underlying293, a196:=isAgg293, z196:=sizeOf293,v196:=zeroValue293
 t198:=underlying296, a198:=isAgg296, z198:=sizeOf296,v198:=zeroValue296
 t201:=underlying299, a201:=isAgg299, z201:=sizeOf299,v201:=zeroValue299
 t226:=underlying320, a226:=isAgg320, z226:=sizeOf320,v226:=zeroValue320
 t227:=underlying321, a227:=isAgg321, z227:=sizeOf321,v227:=zeroValue321
 g0:=by kernel_rfl
 g6:=by kernel_rfl }
open Go.RowKit Go.Lib in
theorem Tryz.strings_Fields (s : ByteArray) (w : World) (hs : s.size < 4294967281) (hascii : ∀ (j : Nat) b, s.data.toList[j]? = some b → b.toNat < 128) (htab : Lib.TabIs Tryz.prog w "strings.asciiSpace" .u8 Lib.asciiSpaceTab) :
 Calls Tryz.prog 83 #[.string s] w fun e w' =>
 e = .returned (.slice (some ⟨w.heap.size, 0, none⟩) (Lib.fields s.data.toList).length (Lib.fields s.data.toList).length) ∧ w' = w.alloc (.cells ((Lib.fields s.data.toList).map fun l => Value.string ⟨l.toArray⟩).toArray 9):=Any.strings_Fields Tryz.lays157 (by kernel_rfl) (by kernel_rfl) s w hs hascii htab
def Tryz.lays107_ren : Ren:=⟨fun | 107 => 71 | 108 => 101 | n => n, fun | 28 => 52 | 3 => 3 | 4 => 4 | 0 => 0 | n => n, fun | n => n⟩
theorem Tryz.lays107 : Go.Proofs.Lays.n107 Tryz.prog Tryz.lays107_ren:={
 mixed:=by kernel_rfl
 f107:=func71.trans (cS (by kernel_rfl))
 f108:=func101.trans (cS (by kernel_rfl))
 t0:=underlying0, a0:=isAgg0, z0:=sizeOf0,v0:=zeroValue0
 t3:=underlying3, a3:=isAgg3, z3:=sizeOf3,v3:=zeroValue3
 t4:=underlying4, a4:=isAgg4, z4:=sizeOf4,v4:=zeroValue4
 t28:=underlying52, a28:=isAgg52, z28:=sizeOf52,v28:=zeroValue52 }
open Go.Lib in
theorem Tryz.slices_Contains_int (b off n c : Nat) (zs : List Int) (x : Int) (w : World) (hz : n ≤ zs.length) (hbig : n ≤ 9223372036854775807) (hc : ∀ j, j < zs.length → w.cell? ⟨b, off + j, none⟩ = some (.int .i64 (zs.getD j 0))) :
 Calls Tryz.prog 71 #[.slice (some ⟨b, off, none⟩) n c, .int .i64 x] w fun e w' => e = .returned (.bool ((zs.take n).contains x)) ∧ w' = w:=Any.slices_Contains_int Tryz.lays107 b off n c zs x w hz hbig hc
open Go.Lib in
theorem Tryz.slices_Contains_int_empty (a : Option Addr) (c : Nat) (x : Int) (w : World) :
 Calls Tryz.prog 71 #[.slice a 0 c, .int .i64 x] w fun e w' => e = .returned (.bool false) ∧ w' = w:=Any.slices_Contains_int_empty Tryz.lays107 a c x w
def Tryz.lays109_ren : Ren:=⟨fun | 109 => 31 | n => n, fun | 31 => 53 | 9 => 9 | 3 => 3 | 0 => 0 | 4 => 4 | n => n, fun | n => n⟩
theorem Tryz.lays109 : Go.Proofs.Lays.n109 Tryz.prog Tryz.lays109_ren:={
 mixed:=by kernel_rfl
 f109:=func31.trans (cS (by kernel_rfl))
 t0:=underlying0, a0:=isAgg0, z0:=sizeOf0,v0:=zeroValue0
 t3:=underlying3, a3:=isAgg3, z3:=sizeOf3,v3:=zeroValue3
 t4:=underlying4, a4:=isAgg4, z4:=sizeOf4,v4:=zeroValue4
 t9:=underlying9, a9:=isAgg9, z9:=sizeOf9,v9:=zeroValue9
 t31:=underlying53, a31:=isAgg53, z31:=sizeOf53,v31:=zeroValue53 }
open Go.Lib in
theorem Tryz.slices_Index_string (b off n c : Nat) (zs : List ByteArray) (x : ByteArray) (w : World) (hz : n ≤ zs.length) (hbig : n ≤ 9223372036854775807) (hc : ∀ j, j < zs.length → w.cell? ⟨b, off + j, none⟩ = some (.string (zs.getD j ByteArray.empty))) :
 Calls Tryz.prog 31 #[.slice (some ⟨b, off, none⟩) n c, .string x] w fun e w' => e = .returned (.int .i64 (Lib.idxOfS (zs.take n) x)) ∧ w' = w:=Any.slices_Index_string Tryz.lays109 b off n c zs x w hz hbig hc
open Go.Lib in
theorem Tryz.slices_Index_string_empty (a : Option Addr) (c : Nat) (x : ByteArray) (w : World) :
 Calls Tryz.prog 31 #[.slice a 0 c, .string x] w fun e w' => e = .returned (.int .i64 (Lib.idxOfS [] x)) ∧ w' = w:=Any.slices_Index_string_empty Tryz.lays109 a c x w
def Tryz.lays110_ren : Ren:=⟨fun | 110 => 100 | 109 => 31 | n => n, fun | 31 => 53 | 9 => 9 | 4 => 4 | 3 => 3 | 0 => 0 | n => n, fun | n => n⟩
theorem Tryz.lays110 : Go.Proofs.Lays.n110 Tryz.prog Tryz.lays110_ren:={
 mixed:=by kernel_rfl
 f109:=func31.trans (cS (by kernel_rfl))
 f110:=func100.trans (cS (by kernel_rfl))
 t0:=underlying0, a0:=isAgg0, z0:=sizeOf0,v0:=zeroValue0
 t3:=underlying3, a3:=isAgg3, z3:=sizeOf3,v3:=zeroValue3
 t4:=underlying4, a4:=isAgg4, z4:=sizeOf4,v4:=zeroValue4
 t9:=underlying9, a9:=isAgg9, z9:=sizeOf9,v9:=zeroValue9
 t31:=underlying53, a31:=isAgg53, z31:=sizeOf53,v31:=zeroValue53 }
open Go.Lib in
theorem Tryz.slices_Contains_string (b off n c : Nat) (zs : List ByteArray) (x : ByteArray) (w : World) (hz : n ≤ zs.length) (hbig : n ≤ 9223372036854775807) (hc : ∀ j, j < zs.length → w.cell? ⟨b, off + j, none⟩ = some (.string (zs.getD j ByteArray.empty))) :
 Calls Tryz.prog 100 #[.slice (some ⟨b, off, none⟩) n c, .string x] w fun e w' => e = .returned (.bool (Lib.containsS (zs.take n) x)) ∧ w' = w:=Any.slices_Contains_string Tryz.lays110 b off n c zs x w hz hbig hc
end Go.Proofs
