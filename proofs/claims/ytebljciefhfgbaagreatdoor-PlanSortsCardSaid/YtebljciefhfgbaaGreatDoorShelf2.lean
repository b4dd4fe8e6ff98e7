/-
  Contracts of the library's functions at this program, off the shelf. Conditions: as each says.
-/
import Derived.Shelf.LaysM
import Derived.Shelf.LaysC
import Derived.Shelf.Bits.Mul64
import Derived.Test.YtebljciefhfgbaaGreatDoorProg
namespace Go.Proofs
open Tryz
theorem Tryz.cS2 {α:Type _} {a b:α} (h:a=b):some a=some b:=congrArg some h
open Go.Shelf
def Tryz.lays264_ren : Ren:=⟨fun | 264 => 151 | n => n, fun | 53 => 224 | 46 => 233 | n => n, fun | n => n⟩
theorem Tryz.lays264 : Go.Proofs.Lays.n264 Tryz.prog Tryz.lays264_ren:={
 mixed:=by kernel_rfl
 f264:=func151.trans (cS2 (by kernel_rfl))
 t46:=underlying233, a46:=isAgg233, z46:=sizeOf233,v46:=zeroValue233
 t53:=underlying224, a53:=isAgg224, z53:=sizeOf224,v53:=zeroValue224 }
open Go.RowKit Go.Lib in
theorem Tryz.bits_Mul64 (x y : Nat) (hx : x < 18446744073709551616) (hy : y < 18446744073709551616) (w : World) :
 Calls Tryz.prog 151 #[.int .u64 x, .int .u64 y] w fun e w' => e = .returned (.tuple #[.int .u64 ((x * y / 18446744073709551616 : Nat) : Int), .int .u64 ((x * y % 18446744073709551616 : Nat) : Int)]) ∧ w' = w:=Any.bits_Mul64 Tryz.lays264 x y hx hy w
end Go.Proofs
