/-
  Contracts of the library's functions at this program, off the shelf. Conditions: as each says.
-/
import Derived.Shelf.Strings.OnBuilder
import Derived.Shelf.Small.Strs
import Derived.Shelf.Strconv.Itoa1
import Derived.Shelf.LaysM
import Derived.Shelf.Strconv.Itoa3
import Derived.Shelf.LaysC
import Derived.Shelf.Strconv.ParseIntPublic10
import Derived.Shelf.Strings.Search3
import Derived.Shelf.Strings.Prefix
import Derived.Shelf.Strings.Fields
import Derived.Shelf.Slices.Turned
import Derived.Test.YtgdpaieechgahaaGreatDoorProg
namespace Go.Proofs
open Tryz
theorem Tryz.cS {α:Type _} {a b:α} (h:a=b):some a=some b:=congrArg some h
open Go.Shelf
def Tryz.lays158_ren : Ren:=⟨fun | 158 => 61 | 165 => 68 | 166 => 69 | 167 => 91 | 169 => 70 | 230 => 92 | 203 => 93 | 240 => 101 | 241 => 102 | 197 => 121 | 118 => 122 | 168 => 123 | 270 => 124 | 262 => 125 | 276 => 135 | 277 => 136 | 260 => 145 | 242 => 146 | 313 => 147 | 278 => 167 | 274 => 168 | 275 => 169 | n => n, fun | 9 => 9 | 4 => 4 | 3 => 3 | 5 => 5 | 72 => 152 | 0 => 0 | 76 => 156 | 75 => 155 | 107 => 178 | 70 => 150 | 20 => 20 | 37 => 73 | 127 => 185 | 21 => 21 | 105 => 202 | 164 => 218 | 162 => 232 | 203 => 230 | 119 => 105 | 46 => 175 | 139 => 258 | 138 => 257 | 51 => 213 | 160 => 259 | 208 => 272 | 206 => 270 | 80 => 120 | n => n, fun | 13 => 4 | 3 => 7 | 4 => 8 | n => n⟩
theorem Tryz.lays158 : Go.Proofs.Lays.n158 Tryz.prog Tryz.lays158_ren:={
 mixed:=by kernel_rfl
 f118:=func122.trans (cS (by kernel_rfl))
 f158:=func61.trans (cS (by kernel_rfl))
 f165:=func68.trans (cS (by kernel_rfl))
 f166:=func69.trans (cS (by kernel_rfl))
 f167:=func91.trans (cS (by kernel_rfl))
 f168:=func123.trans (cS (by kernel_rfl))
 f169:=func70.trans (cS (by kernel_rfl))
 f197:=func121.trans (cS (by kernel_rfl))
 f203:=func93.trans (cS (by kernel_rfl))
 f230:=func92.trans (cS (by kernel_rfl))
 f240:=func101.trans (cS (by kernel_rfl))
 f241:=func102.trans (cS (by kernel_rfl))
 f242:=func146.trans (cS (by kernel_rfl))
 f260:=func145.trans (cS (by kernel_rfl))
 f262:=func125.trans (cS (by kernel_rfl))
 f270:=func124.trans (cS (by kernel_rfl))
 f274:=func168.trans (cS (by kernel_rfl))
 f275:=func169.trans (cS (by kernel_rfl))
 f276:=func135.trans (cS (by kernel_rfl))
 f277:=func136.trans (cS (by kernel_rfl))
 f278:=func167.trans (cS (by kernel_rfl))
 f313:=func147.trans (cS (by kernel_rfl))
 t0:=underlying0, a0:=isAgg0, z0:=sizeOf0,v0:=zeroValue0
 t3:=underlying3, a3:=isAgg3, z3:=sizeOf3,v3:=zeroValue3
 t4:=underlying4, a4:=isAgg4, z4:=sizeOf4,v4:=zeroValue4
 t5:=underlying5, a5:=isAgg5, z5:=sizeOf5,v5:=zeroValue5
 t9:=underlying9, a9:=isAgg9, z9:=sizeOf9,v9:=zeroValue9
 t20:=underlying20, a20:=isAgg20, z20:=sizeOf20,v20:=zeroValue20
 t21:=underlying21, a21:=isAgg21, z21:=sizeOf21,v21:=zeroValue21
 t37:=underlying73, a37:=isAgg73, z37:=sizeOf73,v37:=zeroValue73
 t46:=underlying175, a46:=isAgg175, z46:=sizeOf175,v46:=zeroValue175
 t51:=underlying213, a51:=isAgg213, z51:=sizeOf213,v51:=zeroValue213
 t70:=underlying150, a70:=isAgg150, z70:=sizeOf150,v70:=zeroValue150
 t72:=underlying152, a72:=isAgg152, z72:=sizeOf152,v72:=zeroValue152
 t75:=underlying155, a75:=isAgg155, z75:=sizeOf155,v75:=zeroValue155
 t76:=underlying156, a76:=isAgg156, z76:=sizeOf156,v76:=zeroValue156
 t105:=underlying202, a105:=isAgg202, z105:=sizeOf202,v105:=zeroValue202
 t107:=underlying178, a107:=isAgg178, z107:=sizeOf178,v107:=zeroValue178
 t119:=underlying105, a119:=isAgg105,z119:=sizeOf105
 t127:=underlying185, a127:=isAgg185, z127:=sizeOf185,v127:=zeroValue185
 t138:=underlying257, a138:=isAgg257, z138:=sizeOf257,v138:=zeroValue257
 t139:=underlying258, a139:=isAgg258, z139:=sizeOf258,v139:=zeroValue258
 t160:=underlying259, a160:=isAgg259, z160:=sizeOf259,v160:=zeroValue259
 t162:=underlying232, a162:=isAgg232, z162:=sizeOf232,v162:=zeroValue232
 t164:=underlying218, a164:=isAgg218, z164:=sizeOf218,v164:=zeroValue218
 t203:=underlying230, a203:=isAgg230, z203:=sizeOf230,v203:=zeroValue230
 t206:=underlying270, a206:=isAgg270, z206:=sizeOf270,v206:=zeroValue270
 t208:=underlying272, a208:=isAgg272, z208:=sizeOf272,v208:=zeroValue272
 g3:=by kernel_rfl
 g4:=by kernel_rfl
 g13:=by kernel_rfl }
theorem Tryz.Builder_Extra_158 : Builder.Extra Tryz.prog Tryz.lays158_ren:={
 sizeBuilder:=by kernel_rfl
 liesBuilder:=by kernel_rfl
 t5:=underlying5, a5:=isAgg5, z5:=sizeOf5,v5:=zeroValue5
 infoByte:=by kernel_rfl
 cellsByte:=by kernel_rfl
 sizeByte:=by kernel_rfl
 neB5:=by decide }
open Go.RowKit in
theorem Tryz.strings_ToUpper_ascii (s : ByteArray) (w : World) (hs : s.size ≤ 140737488355328) (hascii : ∀ (j : Nat) (b : UInt8), s.data.toList[j]? = some b → b.toNat < 128) :
 Calls Tryz.prog 61 #[.string s] w fun e w' => e = .returned (.string ⟨(Lib.toUpperA s.data.toList).toArray⟩) ∧ Below w.heap.size w w':=Any.strings_ToUpper_ascii Tryz.lays158 Tryz.Builder_Extra_158 s w hs hascii
def Tryz.lays159_ren : Ren:=⟨fun | 159 => 108 | 165 => 68 | 166 => 69 | 167 => 91 | 169 => 70 | 230 => 92 | 204 => 141 | 240 => 101 | 241 => 102 | 197 => 121 | 118 => 122 | 168 => 123 | 270 => 124 | 262 => 125 | 276 => 135 | 277 => 136 | 260 => 145 | 242 => 146 | 313 => 147 | 278 => 167 | 274 => 168 | 275 => 169 | n => n, fun | 9 => 9 | 4 => 4 | 3 => 3 | 5 => 5 | 72 => 152 | 0 => 0 | 76 => 156 | 75 => 155 | 107 => 178 | 70 => 150 | 20 => 20 | 37 => 73 | 127 => 185 | 21 => 21 | 105 => 202 | 164 => 218 | 162 => 232 | 203 => 230 | 119 => 105 | 46 => 175 | 139 => 258 | 138 => 257 | 51 => 213 | 160 => 259 | 208 => 272 | 206 => 270 | 80 => 120 | n => n, fun | 13 => 4 | 3 => 7 | 4 => 8 | n => n⟩
theorem Tryz.lays159 : Go.Proofs.Lays.n159 Tryz.prog Tryz.lays159_ren:={
 mixed:=by kernel_rfl
 f118:=func122.trans (cS (by kernel_rfl))
 f159:=func108.trans (cS (by kernel_rfl))
 f165:=func68.trans (cS (by kernel_rfl))
 f166:=func69.trans (cS (by kernel_rfl))
 f167:=func91.trans (cS (by kernel_rfl))
 f168:=func123.trans (cS (by kernel_rfl))
 f169:=func70.trans (cS (by kernel_rfl))
 f197:=func121.trans (cS (by kernel_rfl))
 f204:=func141.trans (cS (by kernel_rfl))
 f230:=func92.trans (cS (by kernel_rfl))
 f240:=func101.trans (cS (by kernel_rfl))
 f241:=func102.trans (cS (by kernel_rfl))
 f242:=func146.trans (cS (by kernel_rfl))
 f260:=func145.trans (cS (by kernel_rfl))
 f262:=func125.trans (cS (by kernel_rfl))
 f270:=func124.trans (cS (by kernel_rfl))
 f274:=func168.trans (cS (by kernel_rfl))
 f275:=func169.trans (cS (by kernel_rfl))
 f276:=func135.trans (cS (by kernel_rfl))
 f277:=func136.trans (cS (by kernel_rfl))
 f278:=func167.trans (cS (by kernel_rfl))
 f313:=func147.trans (cS (by kernel_rfl))
 t0:=underlying0, a0:=isAgg0, z0:=sizeOf0,v0:=zeroValue0
 t3:=underlying3, a3:=isAgg3, z3:=sizeOf3,v3:=zeroValue3
 t4:=underlying4, a4:=isAgg4, z4:=sizeOf4,v4:=zeroValue4
 t5:=underlying5, a5:=isAgg5, z5:=sizeOf5,v5:=zeroValue5
 t9:=underlying9, a9:=isAgg9, z9:=sizeOf9,v9:=zeroValue9
 t20:=underlying20, a20:=isAgg20, z20:=sizeOf20,v20:=zeroValue20
 t21:=underlying21, a21:=isAgg21, z21:=sizeOf21,v21:=zeroValue21
 t37:=underlying73, a37:=isAgg73, z37:=sizeOf73,v37:=zeroValue73
 t46:=underlying175, a46:=isAgg175, z46:=sizeOf175,v46:=zeroValue175
 t51:=underlying213, a51:=isAgg213, z51:=sizeOf213,v51:=zeroValue213
 t70:=underlying150, a70:=isAgg150, z70:=sizeOf150,v70:=zeroValue150
 t72:=underlying152, a72:=isAgg152, z72:=sizeOf152,v72:=zeroValue152
 t75:=underlying155, a75:=isAgg155, z75:=sizeOf155,v75:=zeroValue155
 t76:=underlying156, a76:=isAgg156, z76:=sizeOf156,v76:=zeroValue156
 t105:=underlying202, a105:=isAgg202, z105:=sizeOf202,v105:=zeroValue202
 t107:=underlying178, a107:=isAgg178, z107:=sizeOf178,v107:=zeroValue178
 t119:=underlying105, a119:=isAgg105,z119:=sizeOf105
 t127:=underlying185, a127:=isAgg185, z127:=sizeOf185,v127:=zeroValue185
 t138:=underlying257, a138:=isAgg257, z138:=sizeOf257,v138:=zeroValue257
 t139:=underlying258, a139:=isAgg258, z139:=sizeOf258,v139:=zeroValue258
 t160:=underlying259, a160:=isAgg259, z160:=sizeOf259,v160:=zeroValue259
 t162:=underlying232, a162:=isAgg232, z162:=sizeOf232,v162:=zeroValue232
 t164:=underlying218, a164:=isAgg218, z164:=sizeOf218,v164:=zeroValue218
 t203:=underlying230, a203:=isAgg230, z203:=sizeOf230,v203:=zeroValue230
 t206:=underlying270, a206:=isAgg270, z206:=sizeOf270,v206:=zeroValue270
 t208:=underlying272, a208:=isAgg272, z208:=sizeOf272,v208:=zeroValue272
 g3:=by kernel_rfl
 g4:=by kernel_rfl
 g13:=by kernel_rfl }
theorem Tryz.Builder_Extra_159 : Builder.Extra Tryz.prog Tryz.lays159_ren:={
 sizeBuilder:=by kernel_rfl
 liesBuilder:=by kernel_rfl
 t5:=underlying5, a5:=isAgg5, z5:=sizeOf5,v5:=zeroValue5
 infoByte:=by kernel_rfl
 cellsByte:=by kernel_rfl
 sizeByte:=by kernel_rfl
 neB5:=by decide }
open Go.RowKit in
theorem Tryz.strings_ToLower_ascii (s : ByteArray) (w : World) (hs : s.size ≤ 140737488355328) (hascii : ∀ (j : Nat) (b : UInt8), s.data.toList[j]? = some b → b.toNat < 128) :
 Calls Tryz.prog 108 #[.string s] w fun e w' => e = .returned (.string ⟨(Lib.toLowerA s.data.toList).toArray⟩) ∧ Below w.heap.size w w':=Any.strings_ToLower_ascii Tryz.lays159 Tryz.Builder_Extra_159 s w hs hascii
def Tryz.lays156_ren : Ren:=⟨fun | 156 => 31 | 165 => 68 | 166 => 69 | 169 => 70 | 240 => 101 | 241 => 102 | 276 => 135 | 277 => 136 | n => n, fun | 31 => 44 | 9 => 9 | 3 => 3 | 4 => 4 | 0 => 0 | 20 => 20 | 72 => 152 | 76 => 156 | 70 => 150 | 37 => 73 | 75 => 155 | 127 => 185 | 164 => 218 | 5 => 5 | 80 => 120 | n => n, fun | n => n⟩
theorem Tryz.lays156 : Go.Proofs.Lays.n156 Tryz.prog Tryz.lays156_ren:={
 mixed:=by kernel_rfl
 f156:=func31.trans (cS (by kernel_rfl))
 f165:=func68.trans (cS (by kernel_rfl))
 f166:=func69.trans (cS (by kernel_rfl))
 f169:=func70.trans (cS (by kernel_rfl))
 f240:=func101.trans (cS (by kernel_rfl))
 f241:=func102.trans (cS (by kernel_rfl))
 f276:=func135.trans (cS (by kernel_rfl))
 f277:=func136.trans (cS (by kernel_rfl))
 t0:=underlying0, a0:=isAgg0, z0:=sizeOf0,v0:=zeroValue0
 t3:=underlying3, a3:=isAgg3, z3:=sizeOf3,v3:=zeroValue3
 t4:=underlying4, a4:=isAgg4, z4:=sizeOf4,v4:=zeroValue4
 t9:=underlying9, a9:=isAgg9, z9:=sizeOf9,v9:=zeroValue9
 t20:=underlying20, a20:=isAgg20, z20:=sizeOf20,v20:=zeroValue20
 t31:=underlying44, a31:=isAgg44, z31:=sizeOf44,v31:=zeroValue44
 t37:=underlying73, a37:=isAgg73, z37:=sizeOf73,v37:=zeroValue73
 t70:=underlying150, a70:=isAgg150, z70:=sizeOf150,v70:=zeroValue150
 t72:=underlying152, a72:=isAgg152, z72:=sizeOf152,v72:=zeroValue152
 t75:=underlying155, a75:=isAgg155, z75:=sizeOf155,v75:=zeroValue155
 t76:=underlying156, a76:=isAgg156, z76:=sizeOf156,v76:=zeroValue156
 t127:=underlying185, a127:=isAgg185, z127:=sizeOf185,v127:=zeroValue185
 t164:=underlying218, a164:=isAgg218, z164:=sizeOf218,v164:=zeroValue218 }
theorem Tryz.Builder_Extra_156 : Builder.Extra Tryz.prog Tryz.lays156_ren:={
 sizeBuilder:=by kernel_rfl
 liesBuilder:=by kernel_rfl
 t5:=underlying5, a5:=isAgg5, z5:=sizeOf5,v5:=zeroValue5
 infoByte:=by kernel_rfl
 cellsByte:=by kernel_rfl
 sizeByte:=by kernel_rfl
 neB5:=by decide }
open Go.RowKit in
theorem Tryz.strings_Join (bk o c : Nat) (xs : List ByteArray) (sep : ByteArray) (w : World) (hcells : ∀ (j : Nat) x, xs[j]? = some x → w.cell? ⟨bk, o + j, none⟩ = some (.string x)) (hbk : bk < w.heap.size) (hN : xs.length ≤ 140737488355328) (hcap : xs.length ≤ c) (hlen : (Lib.join (xs.map (·.data.toList)) sep.data.toList).length ≤ 140737488355328) :
 Calls Tryz.prog 31 #[.slice (some ⟨bk, o, none⟩) xs.length c, .string sep] w fun e w' => e = .returned (.string ⟨(Lib.join (xs.map (·.data.toList)) sep.data.toList).toArray⟩) ∧ Below w.heap.size w w':=Any.strings_Join Tryz.lays156 Tryz.Builder_Extra_156 bk o c xs sep w hcells hbk hN hcap hlen
def Tryz.lays137_ren : Ren:=⟨fun | 137 => 106 | 217 => 140 | 266 => 163 | n => n, fun | 9 => 9 | 5 => 5 | 3 => 3 | n => n, fun | n => n⟩
theorem Tryz.lays137 : Go.Proofs.Lays.n137 Tryz.prog Tryz.lays137_ren:={
 mixed:=by kernel_rfl
 f137:=func106.trans (cS (by kernel_rfl))
 f217:=func140.trans (cS (by kernel_rfl))
 f266:=func163.trans (cS (by kernel_rfl))
 t3:=underlying3, a3:=isAgg3, z3:=sizeOf3,v3:=zeroValue3
 t5:=underlying5, a5:=isAgg5, z5:=sizeOf5,v5:=zeroValue5
 t9:=underlying9, a9:=isAgg9, z9:=sizeOf9,v9:=zeroValue9 }
open Go.RowKit in
theorem Tryz.strings_IndexByte (s : ByteArray) (c : Int) (w : World) :
 Calls Tryz.prog 106 #[.string s, .int .u8 c] w fun e w' => e = .returned (.int .i64 (Lib.indexByte s.data.toList c.toNat.toUInt8)) ∧ w' = w:=Any.strings_IndexByte Tryz.lays137 s c w
def Tryz.lays283_ren : Ren:=⟨fun | 283 => 128 | n => n, fun | 3 => 3 | 9 => 9 | 4 => 4 | n => n, fun | n => n⟩
theorem Tryz.lays283 : Go.Proofs.Lays.n283 Tryz.prog Tryz.lays283_ren:={
 mixed:=by kernel_rfl
 f283:=func128.trans (cS (by kernel_rfl))
 t3:=underlying3, a3:=isAgg3, z3:=sizeOf3,v3:=zeroValue3
 t4:=underlying4, a4:=isAgg4, z4:=sizeOf4,v4:=zeroValue4
 t9:=underlying9, a9:=isAgg9, z9:=sizeOf9,v9:=zeroValue9 }
open Go.Lib in
theorem Tryz.internal_strconv_small (i : Nat) (h : i < 100) (w : World) :
 Calls Tryz.prog 128 #[.int .i64 i] w fun e w' => e = .returned (.string ⟨(Lib.decDigits i).toArray⟩) ∧ w' = w:=Any.internal_strconv_small Tryz.lays283 i h w
def Tryz.laysM171_ren : Ren:=⟨fun | 171 => 30 | 243 => 67 | 246 => 100 | 283 => 128 | 284 => 129 | 285 => 130 | 286 => 131 | 129 => 152 | 317 => 151 | 318 => 153 | 319 => 154 | 320 => 155 | 337 => 173 | 338 => 174 | n => n, fun | 3 => 3 | 9 => 9 | 2 => 2 | 4 => 4 | 171 => 208 | 0 => 0 | 53 => 144 | 37 => 73 | 5 => 5 | 173 => 211 | 212 => 235 | 51 => 213 | 20 => 20 | 213 => 236 | 46 => 175 | 232 => 274 | 233 => 275 | n => n, fun | 17 => 5 | 18 => 11 | 19 => 12 | n => n⟩
theorem Tryz.laysM171 : Go.Proofs.LaysM.n171 Tryz.prog Tryz.laysM171_ren:={
 mixed:=by kernel_rfl
 f129:=func152.trans (cS (by kernel_rfl))
 f171:=func30.trans (cS (by kernel_rfl))
 f243:=func67.trans (cS (by kernel_rfl))
 f246:=func100.trans (cS (by kernel_rfl))
 f283:=func128.trans (cS (by kernel_rfl))
 f284:=func129.trans (cS (by kernel_rfl))
 f285:=func130.trans (cS (by kernel_rfl))
 f286:=func131.trans (cS (by kernel_rfl))
 f317:=func151.trans (cS (by kernel_rfl))
 f318:=func153.trans (cS (by kernel_rfl))
 f319:=func154.trans (cS (by kernel_rfl))
 f320:=func155.trans (cS (by kernel_rfl))
 f337:=func173.trans (cS (by kernel_rfl))
 f338:=func174.trans (cS (by kernel_rfl))
 t0:=underlying0, a0:=isAgg0, z0:=sizeOf0,v0:=zeroValue0
 t2:=underlying2, a2:=isAgg2, z2:=sizeOf2,v2:=zeroValue2
 t3:=underlying3, a3:=isAgg3, z3:=sizeOf3,v3:=zeroValue3
 t4:=underlying4, a4:=isAgg4, z4:=sizeOf4,v4:=zeroValue4
 t5:=underlying5, a5:=isAgg5, z5:=sizeOf5,v5:=zeroValue5
 t9:=underlying9, a9:=isAgg9, z9:=sizeOf9,v9:=zeroValue9
 t20:=underlying20, a20:=isAgg20, z20:=sizeOf20,v20:=zeroValue20
 t37:=underlying73, a37:=isAgg73, z37:=sizeOf73,v37:=zeroValue73
 t46:=underlying175, a46:=isAgg175, z46:=sizeOf175,v46:=zeroValue175
 t51:=underlying213, a51:=isAgg213, z51:=sizeOf213,v51:=zeroValue213
 t53:=underlying144, a53:=isAgg144, z53:=sizeOf144,v53:=zeroValue144
 t171:=underlying208, a171:=isAgg208, z171:=sizeOf208,v171:=zeroValue208
 t173:=underlying211, a173:=isAgg211, z173:=sizeOf211,v173:=zeroValue211
 t212:=underlying235, a212:=isAgg235, z212:=sizeOf235,v212:=zeroValue235
 t213:=underlying236, a213:=isAgg236,z213:=sizeOf236
 t232:=underlying274, a232:=isAgg274, z232:=sizeOf274,v232:=zeroValue274
 t233:=underlying275, a233:=isAgg275, z233:=sizeOf275,v233:=zeroValue275
 g17:=by kernel_rfl
 g18:=by kernel_rfl
 g19:=by kernel_rfl
 i0:=by kernel_rfl
 i2:=by kernel_rfl
 i3:=by kernel_rfl
 i4:=by kernel_rfl
 i5:=by kernel_rfl
 i9:=by kernel_rfl
 i20:=by kernel_rfl
 i37:=by kernel_rfl
 i46:=by kernel_rfl
 i51:=by kernel_rfl
 i53:=by kernel_rfl
 i171:=by kernel_rfl
 i173:=by kernel_rfl
 i212:=by kernel_rfl
 i232:=by kernel_rfl
 i233:=by kernel_rfl
 m17:=by kernel_rfl
 m18:=by kernel_rfl
 m19:=by kernel_rfl }
open Go.RowKit Go.Sort Go.Lib in
theorem Tryz.strconv_Itoa (n : Int) (h0 : -9223372036854775808 ≤ n) (h1 : n ≤ 9223372036854775807) (w : World) (htab : Lib.TabIs Tryz.prog w "internal/strconv.uint64pow10" .u64 Lib.pow10Tab) :
 Calls Tryz.prog 30 #[.int .i64 n] w fun e w' => e = .returned (.string ⟨(Lib.itoa n).toArray⟩) ∧ ∃ k os, w' = grow (w.drewN k) os:=Any.strconv_Itoa Tryz.laysM171 n h0 h1 w htab
def Tryz.laysC174_ren : Ren:=⟨fun | 174 => 105 | 247 => 138 | 245 => 139 | 287 => 158 | 279 => 159 | 280 => 160 | 281 => 161 | 282 => 162 | 321 => 175 | 322 => 176 | 316 => 177 | 171 => 30 | 205 => 178 | 243 => 67 | 246 => 100 | 283 => 128 | 284 => 129 | 285 => 130 | 286 => 131 | 129 => 152 | 317 => 151 | 318 => 153 | 319 => 154 | 320 => 155 | 337 => 173 | 338 => 174 | n => n, fun | 9 => 9 | 3 => 3 | 2 => 2 | 75 => 155 | 85 => 189 | 4 => 4 | 167 => 249 | 5 => 5 | 53 => 144 | 175 => 250 | 46 => 175 | 168 => 252 | 37 => 73 | 0 => 0 | 210 => 267 | 21 => 21 | 127 => 185 | 145 => 278 | 143 => 276 | 171 => 208 | 173 => 211 | 212 => 235 | 51 => 213 | 20 => 20 | 213 => 236 | 232 => 274 | 233 => 275 | 80 => 120 | n => n, fun | 15 => 9 | 16 => 10 | 17 => 5 | 18 => 11 | 19 => 12 | n => n⟩
theorem Tryz.laysC174 : Go.Proofs.LaysC.n174 Tryz.prog Tryz.laysC174_ren:={
 mixed:=by kernel_rfl
 f129:=func152.trans (cS (by kernel_rfl))
 f171:=func30.trans (cS (by kernel_rfl))
 f174:=func105.trans (cS (by kernel_rfl))
 f205:=func178.trans (cS (by kernel_rfl))
 f243:=func67.trans (cS (by kernel_rfl))
 f245:=func139.trans (cS (by kernel_rfl))
 f246:=func100.trans (cS (by kernel_rfl))
 f247:=func138.trans (cS (by kernel_rfl))
 f279:=func159.trans (cS (by kernel_rfl))
 f280:=func160.trans (cS (by kernel_rfl))
 f281:=func161.trans (cS (by kernel_rfl))
 f282:=func162.trans (cS (by kernel_rfl))
 f283:=func128.trans (cS (by kernel_rfl))
 f284:=func129.trans (cS (by kernel_rfl))
 f285:=func130.trans (cS (by kernel_rfl))
 f286:=func131.trans (cS (by kernel_rfl))
 f287:=func158.trans (cS (by kernel_rfl))
 f316:=func177.trans (cS (by kernel_rfl))
 f317:=func151.trans (cS (by kernel_rfl))
 f318:=func153.trans (cS (by kernel_rfl))
 f319:=func154.trans (cS (by kernel_rfl))
 f320:=func155.trans (cS (by kernel_rfl))
 f321:=func175.trans (cS (by kernel_rfl))
 f322:=func176.trans (cS (by kernel_rfl))
 f337:=func173.trans (cS (by kernel_rfl))
 f338:=func174.trans (cS (by kernel_rfl))
 t0:=underlying0, a0:=isAgg0, z0:=sizeOf0,v0:=zeroValue0
 t2:=underlying2, a2:=isAgg2, z2:=sizeOf2,v2:=zeroValue2
 t3:=underlying3, a3:=isAgg3, z3:=sizeOf3,v3:=zeroValue3
 t4:=underlying4, a4:=isAgg4, z4:=sizeOf4,v4:=zeroValue4
 t5:=underlying5, a5:=isAgg5, z5:=sizeOf5,v5:=zeroValue5
 t9:=underlying9, a9:=isAgg9, z9:=sizeOf9,v9:=zeroValue9
 t20:=underlying20, a20:=isAgg20, z20:=sizeOf20,v20:=zeroValue20
 t21:=underlying21, a21:=isAgg21, z21:=sizeOf21,v21:=zeroValue21
 t37:=underlying73, a37:=isAgg73, z37:=sizeOf73,v37:=zeroValue73
 t46:=underlying175, a46:=isAgg175, z46:=sizeOf175,v46:=zeroValue175
 t51:=underlying213, a51:=isAgg213, z51:=sizeOf213,v51:=zeroValue213
 t53:=underlying144, a53:=isAgg144, z53:=sizeOf144,v53:=zeroValue144
 t75:=underlying155, a75:=isAgg155, z75:=sizeOf155,v75:=zeroValue155
 t85:=underlying189, a85:=isAgg189, z85:=sizeOf189,v85:=zeroValue189
 t127:=underlying185, a127:=isAgg185, z127:=sizeOf185,v127:=zeroValue185
 t143:=underlying276, a143:=isAgg276, z143:=sizeOf276,v143:=zeroValue276
 t145:=underlying278, a145:=isAgg278, z145:=sizeOf278,v145:=zeroValue278
 t167:=underlying249, a167:=isAgg249, z167:=sizeOf249,v167:=zeroValue249
 t168:=underlying252, a168:=isAgg252, z168:=sizeOf252,v168:=zeroValue252
 t171:=underlying208, a171:=isAgg208, z171:=sizeOf208,v171:=zeroValue208
 t173:=underlying211, a173:=isAgg211, z173:=sizeOf211,v173:=zeroValue211
 t175:=underlying250, a175:=isAgg250, z175:=sizeOf250,v175:=zeroValue250
 t210:=underlying267, a210:=isAgg267, z210:=sizeOf267,v210:=zeroValue267
 t212:=underlying235, a212:=isAgg235, z212:=sizeOf235,v212:=zeroValue235
 t213:=underlying236, a213:=isAgg236,z213:=sizeOf236
 t232:=underlying274, a232:=isAgg274, z232:=sizeOf274,v232:=zeroValue274
 t233:=underlying275, a233:=isAgg275, z233:=sizeOf275,v233:=zeroValue275
 g15:=by kernel_rfl
 g16:=by kernel_rfl
 g17:=by kernel_rfl
 g18:=by kernel_rfl
 g19:=by kernel_rfl
 t80:=underlying120, a80:=isAgg120, z80:=sizeOf120,v80:=zeroValue120
 i0:=by kernel_rfl
 i2:=by kernel_rfl
 i3:=by kernel_rfl
 i4:=by kernel_rfl
 i5:=by kernel_rfl
 i9:=by kernel_rfl
 i20:=by kernel_rfl
 i21:=by kernel_rfl
 i37:=by kernel_rfl
 i46:=by kernel_rfl
 i51:=by kernel_rfl
 i53:=by kernel_rfl
 i75:=by kernel_rfl
 i80:=by kernel_rfl
 i85:=by kernel_rfl
 i127:=by kernel_rfl
 i143:=by kernel_rfl
 i145:=by kernel_rfl
 i167:=by kernel_rfl
 i168:=by kernel_rfl
 i171:=by kernel_rfl
 i173:=by kernel_rfl
 i175:=by kernel_rfl
 i210:=by kernel_rfl
 i212:=by kernel_rfl
 i232:=by kernel_rfl
 i233:=by kernel_rfl
 m15:=by kernel_rfl
 m16:=by kernel_rfl
 m17:=by kernel_rfl
 m18:=by kernel_rfl
 m19:=by kernel_rfl
 c0:=by kernel_rfl
 c2:=by kernel_rfl
 c3:=by kernel_rfl
 c4:=by kernel_rfl
 c5:=by kernel_rfl
 c9:=by kernel_rfl
 c20:=by kernel_rfl
 c21:=by kernel_rfl
 c37:=by kernel_rfl
 c46:=by kernel_rfl
 c51:=by kernel_rfl
 c53:=by kernel_rfl
 c75:=by kernel_rfl
 c80:=by kernel_rfl
 c85:=by kernel_rfl
 c127:=by kernel_rfl
 c143:=by kernel_rfl
 c145:=by kernel_rfl
 c167:=by kernel_rfl
 c168:=by kernel_rfl
 c171:=by kernel_rfl
 c173:=by kernel_rfl
 c175:=by kernel_rfl
 c210:=by kernel_rfl
 c212:=by kernel_rfl
 c213:=by kernel_rfl
 c232:=by kernel_rfl
 c233:=by kernel_rfl }
open Go.RowKit in
theorem Tryz.strconv_ParseInt_10_at64_ok (s : ByteArray) (hmax : s.size ≤ 9223372036854775806) (v : Int) (h : Lib.parseIntB 64 s.data.toList = .ok v) (w : World) :
 Calls Tryz.prog 105 #[.string s, .int .i64 10, .int .i64 64] w fun e w' => e = .returned (.tuple #[.int .i64 v, .nilIface]) ∧ (w' = w ∨ ∃ t, w' = Lib.bytesWorld w 5 t):=Any.strconv_ParseInt_10_at64_ok Tryz.laysC174 s hmax v h w
open Go.RowKit in
theorem Tryz.strconv_ParseInt_10_at64_range (s : ByteArray) (hlim : s.size ≤ 281474976710656) (h : Lib.parseIntB 64 s.data.toList = .range) (ev : Value) (w : World) (hv : w.cell? ⟨10, 0, none⟩ = some ev) (hev : ev = .nilIface ∨ ∃ te pe, ev = .iface te pe) :
 Calls Tryz.prog 105 #[.string s, .int .i64 10, .int .i64 64] w fun e w' => ∃ N, e = .returned (.tuple #[.int .i64 (Lib.intSat 64 s.data.toList), .iface 252 (.pointer (some ⟨N, 0, none⟩))]) ∧ w.heap.size ≤ N ∧ w'.heap[N]? = some (.cells #[.string ⟨#[80, 97, 114, 115, 101, 73, 110, 116]⟩, .string s, ev] 267 (0, 0)) ∧ Below w.heap.size w w':=Any.strconv_ParseInt_10_at64_range Tryz.laysC174 s hlim h ev w hv hev
def Tryz.lays144_ren : Ren:=⟨fun | 144 => 107 | 143 => 127 | 219 => 150 | 217 => 140 | 225 => 170 | 224 => 171 | 267 => 172 | 266 => 163 | 314 => 180 | n => n, fun | 9 => 9 | 4 => 4 | 3 => 3 | 5 => 5 | 46 => 175 | 146 => 214 | 51 => 213 | n => n, fun | 1 => 6 | n => n⟩
theorem Tryz.lays144 : Go.Proofs.Lays.n144 Tryz.prog Tryz.lays144_ren:={
 mixed:=by kernel_rfl
 f143:=func127.trans (cS (by kernel_rfl))
 f144:=func107.trans (cS (by kernel_rfl))
 f217:=func140.trans (cS (by kernel_rfl))
 f219:=func150.trans (cS (by kernel_rfl))
 f224:=func171.trans (cS (by kernel_rfl))
 f225:=func170.trans (cS (by kernel_rfl))
 f266:=func163.trans (cS (by kernel_rfl))
 f267:=func172.trans (cS (by kernel_rfl))
 f314:=func180.trans (cS (by kernel_rfl))
 t3:=underlying3, a3:=isAgg3, z3:=sizeOf3,v3:=zeroValue3
 t4:=underlying4, a4:=isAgg4, z4:=sizeOf4,v4:=zeroValue4
 t5:=underlying5, a5:=isAgg5, z5:=sizeOf5,v5:=zeroValue5
 t9:=underlying9, a9:=isAgg9, z9:=sizeOf9,v9:=zeroValue9
 t46:=underlying175, a46:=isAgg175, z46:=sizeOf175,v46:=zeroValue175
 t51:=underlying213, a51:=isAgg213, z51:=sizeOf213,v51:=zeroValue213
 t146:=underlying214, a146:=isAgg214, z146:=sizeOf214,v146:=zeroValue214
 g1:=by kernel_rfl }
open Go.RowKit Go.Lib in
theorem Tryz.strings_Contains_one (s : ByteArray) (c : UInt8) (w : World) :
 Calls Tryz.prog 107 #[.string s, .string ⟨#[c]⟩] w fun e w' => e = .returned (.bool (decide (0 ≤ Lib.indexByte s.data.toList c))) ∧ w' = w:=Any.strings_Contains_one Tryz.lays144 s c w
def Tryz.lays99_ren : Ren:=⟨fun | 99 => 98 | 206 => 134 | n => n, fun | 9 => 9 | 4 => 4 | 3 => 3 | n => n, fun | n => n⟩
theorem Tryz.lays99 : Go.Proofs.Lays.n99 Tryz.prog Tryz.lays99_ren:={
 mixed:=by kernel_rfl
 f99:=func98.trans (cS (by kernel_rfl))
 f206:=func134.trans (cS (by kernel_rfl))
 t3:=underlying3, a3:=isAgg3, z3:=sizeOf3,v3:=zeroValue3
 t4:=underlying4, a4:=isAgg4, z4:=sizeOf4,v4:=zeroValue4
 t9:=underlying9, a9:=isAgg9, z9:=sizeOf9,v9:=zeroValue9 }
open Go.RowKit Go.Lib in
theorem Tryz.strings_HasPrefix (s p : ByteArray) (w : World) :
 Calls Tryz.prog 98 #[.string s, .string p] w fun e w' => e = .returned (.bool (Lib.hasPrefix s.data.toList p.data.toList)) ∧ w' = w:=Any.strings_HasPrefix Tryz.lays99 s p w
def Tryz.lays157_ren : Ren:=⟨fun | 157 => 71 | 229 => 103 | 199 => 104 | 261 => 137 | 311 => 156 | 312 => 157 | n => n, fun | 9 => 9 | 31 => 44 | 3 => 3 | 5 => 5 | 4 => 4 | 119 => 105 | 0 => 0 | 40 => 187 | 152 => 221 | 21 => 21 | 154 => 223 | 51 => 213 | 141 => 225 | 196 => 242 | 193 => 239 | 198 => 244 | 49 => 35 | 194 => 240 | 201 => 247 | 226 => 263 | 46 => 175 | 227 => 264 | n => n, fun | 0 => 1 | 6 => 3 | n => n⟩
theorem Tryz.lays157 : Go.Proofs.Lays.n157 Tryz.prog Tryz.lays157_ren:={
 mixed:=by kernel_rfl
 f157:=func71.trans (cS (by kernel_rfl))
 f199:=func104.trans (cS (by kernel_rfl))
 f229:=func103.trans (cS (by kernel_rfl))
 f261:=func137.trans (cS (by kernel_rfl))
 f311:=func156.trans (cS (by kernel_rfl))
 f312:=func157.trans (cS (by kernel_rfl))
 t0:=underlying0, a0:=isAgg0, z0:=sizeOf0,v0:=zeroValue0
 t3:=underlying3, a3:=isAgg3, z3:=sizeOf3,v3:=zeroValue3
 t4:=underlying4, a4:=isAgg4, z4:=sizeOf4,v4:=zeroValue4
 t5:=underlying5, a5:=isAgg5, z5:=sizeOf5,v5:=zeroValue5
 t9:=underlying9, a9:=isAgg9, z9:=sizeOf9,v9:=zeroValue9
 t21:=underlying21, a21:=isAgg21, z21:=sizeOf21,v21:=zeroValue21
 t31:=underlying44, a31:=isAgg44, z31:=sizeOf44,v31:=zeroValue44
 t40:=underlying187, a40:=isAgg187, z40:=sizeOf187,v40:=zeroValue187
 t46:=underlying175, a46:=isAgg175, z46:=sizeOf175,v46:=zeroValue175
 t49:=underlying35, a49:=isAgg35, z49:=sizeOf35,v49:=zeroValue35
 t51:=underlying213, a51:=isAgg213, z51:=sizeOf213,v51:=zeroValue213
 t119:=underlying105, a119:=isAgg105,z119:=sizeOf105
 t141:=underlying225, a141:=isAgg225, z141:=sizeOf225,v141:=zeroValue225
 t152:=underlying221, a152:=isAgg221, z152:=sizeOf221,v152:=zeroValue221
 t154:=underlying223, a154:=isAgg223, z154:=sizeOf223,v154:=zeroValue223
 t193:=underlying239, a193:=isAgg239, z193:=sizeOf239,v193:=zeroValue239
 t194:=underlying240, a194:=isAgg240, z194:=sizeOf240,v194:=zeroValue240
 t196:=underlying242, a196:=isAgg242, z196:=sizeOf242,v196:=zeroValue242
 t198:=underlying244, a198:=isAgg244, z198:=sizeOf244,v198:=zeroValue244
 t201:=underlying247, a201:=isAgg247, z201:=sizeOf247,v201:=zeroValue247
 t226:=underlying263, a226:=isAgg263, z226:=sizeOf263,v226:=zeroValue263
 t227:=underlying264, a227:=isAgg264, z227:=sizeOf264,v227:=zeroValue264
 g0:=by kernel_rfl
 g6:=by kernel_rfl }
open Go.RowKit Go.Lib in
theorem Tryz.strings_Fields (s : ByteArray) (w : World) (hs : s.size < 4294967281) (hascii : ∀ (j : Nat) b, s.data.toList[j]? = some b → b.toNat < 128) (htab : Lib.TabIs Tryz.prog w "strings.asciiSpace" .u8 Lib.asciiSpaceTab) :
 Calls Tryz.prog 71 #[.string s] w fun e w' =>
 e = .returned (.slice (some ⟨w.heap.size, 0, none⟩) (Lib.fields s.data.toList).length (Lib.fields s.data.toList).length) ∧ w' = w.alloc (.cells ((Lib.fields s.data.toList).map fun l => Value.string ⟨l.toArray⟩).toArray 9):=Any.strings_Fields Tryz.lays157 (by kernel_rfl) (by kernel_rfl) s w hs hascii htab
def Tryz.lays107_ren : Ren:=⟨fun | 107 => 59 | 108 => 90 | n => n, fun | 28 => 42 | 3 => 3 | 4 => 4 | 0 => 0 | n => n, fun | n => n⟩
theorem Tryz.lays107 : Go.Proofs.Lays.n107 Tryz.prog Tryz.lays107_ren:={
 mixed:=by kernel_rfl
 f107:=func59.trans (cS (by kernel_rfl))
 f108:=func90.trans (cS (by kernel_rfl))
 t0:=underlying0, a0:=isAgg0, z0:=sizeOf0,v0:=zeroValue0
 t3:=underlying3, a3:=isAgg3, z3:=sizeOf3,v3:=zeroValue3
 t4:=underlying4, a4:=isAgg4, z4:=sizeOf4,v4:=zeroValue4
 t28:=underlying42, a28:=isAgg42, z28:=sizeOf42,v28:=zeroValue42 }
open Go.Lib in
theorem Tryz.slices_Contains_int (b off n c : Nat) (zs : List Int) (x : Int) (w : World) (hz : n ≤ zs.length) (hbig : n ≤ 9223372036854775807) (hc : ∀ j, j < zs.length → w.cell? ⟨b, off + j, none⟩ = some (.int .i64 (zs.getD j 0))) :
 Calls Tryz.prog 59 #[.slice (some ⟨b, off, none⟩) n c, .int .i64 x] w fun e w' => e = .returned (.bool ((zs.take n).contains x)) ∧ w' = w:=Any.slices_Contains_int Tryz.lays107 b off n c zs x w hz hbig hc
open Go.Lib in
theorem Tryz.slices_Contains_int_empty (a : Option Addr) (c : Nat) (x : Int) (w : World) :
 Calls Tryz.prog 59 #[.slice a 0 c, .int .i64 x] w fun e w' => e = .returned (.bool false) ∧ w' = w:=Any.slices_Contains_int_empty Tryz.lays107 a c x w
def Tryz.lays109_ren : Ren:=⟨fun | 109 => 27 | n => n, fun | 31 => 44 | 9 => 9 | 3 => 3 | 0 => 0 | 4 => 4 | n => n, fun | n => n⟩
theorem Tryz.lays109 : Go.Proofs.Lays.n109 Tryz.prog Tryz.lays109_ren:={
 mixed:=by kernel_rfl
 f109:=func27.trans (cS (by kernel_rfl))
 t0:=underlying0, a0:=isAgg0, z0:=sizeOf0,v0:=zeroValue0
 t3:=underlying3, a3:=isAgg3, z3:=sizeOf3,v3:=zeroValue3
 t4:=underlying4, a4:=isAgg4, z4:=sizeOf4,v4:=zeroValue4
 t9:=underlying9, a9:=isAgg9, z9:=sizeOf9,v9:=zeroValue9
 t31:=underlying44, a31:=isAgg44, z31:=sizeOf44,v31:=zeroValue44 }
open Go.Lib in
theorem Tryz.slices_Index_string (b off n c : Nat) (zs : List ByteArray) (x : ByteArray) (w : World) (hz : n ≤ zs.length) (hbig : n ≤ 9223372036854775807) (hc : ∀ j, j < zs.length → w.cell? ⟨b, off + j, none⟩ = some (.string (zs.getD j ByteArray.empty))) :
 Calls Tryz.prog 27 #[.slice (some ⟨b, off, none⟩) n c, .string x] w fun e w' => e = .returned (.int .i64 (Lib.idxOfS (zs.take n) x)) ∧ w' = w:=Any.slices_Index_string Tryz.lays109 b off n c zs x w hz hbig hc
open Go.Lib in
theorem Tryz.slices_Index_string_empty (a : Option Addr) (c : Nat) (x : ByteArray) (w : World) :
 Calls Tryz.prog 27 #[.slice a 0 c, .string x] w fun e w' => e = .returned (.int .i64 (Lib.idxOfS [] x)) ∧ w' = w:=Any.slices_Index_string_empty Tryz.lays109 a c x w
def Tryz.lays110_ren : Ren:=⟨fun | 110 => 89 | 109 => 27 | n => n, fun | 31 => 44 | 9 => 9 | 4 => 4 | 3 => 3 | 0 => 0 | n => n, fun | n => n⟩
theorem Tryz.lays110 : Go.Proofs.Lays.n110 Tryz.prog Tryz.lays110_ren:={
 mixed:=by kernel_rfl
 f109:=func27.trans (cS (by kernel_rfl))
 f110:=func89.trans (cS (by kernel_rfl))
 t0:=underlying0, a0:=isAgg0, z0:=sizeOf0,v0:=zeroValue0
 t3:=underlying3, a3:=isAgg3, z3:=sizeOf3,v3:=zeroValue3
 t4:=underlying4, a4:=isAgg4, z4:=sizeOf4,v4:=zeroValue4
 t9:=underlying9, a9:=isAgg9, z9:=sizeOf9,v9:=zeroValue9
 t31:=underlying44, a31:=isAgg44, z31:=sizeOf44,v31:=zeroValue44 }
open Go.Lib in
theorem Tryz.slices_Contains_string (b off n c : Nat) (zs : List ByteArray) (x : ByteArray) (w : World) (hz : n ≤ zs.length) (hbig : n ≤ 9223372036854775807) (hc : ∀ j, j < zs.length → w.cell? ⟨b, off + j, none⟩ = some (.string (zs.getD j ByteArray.empty))) :
 Calls Tryz.prog 89 #[.slice (some ⟨b, off, none⟩) n c, .string x] w fun e w' => e = .returned (.bool (Lib.containsS (zs.take n) x)) ∧ w' = w:=Any.slices_Contains_string Tryz.lays110 b off n c zs x w hz hbig hc
end Go.Proofs
