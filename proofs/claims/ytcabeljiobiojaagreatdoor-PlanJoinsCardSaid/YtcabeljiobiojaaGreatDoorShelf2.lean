/-
  Contracts of the library's functions at this program, off the shelf. Conditions: as each says.
-/
import Derived.Shelf.LaysM
import Derived.Shelf.LaysC
import Derived.Shelf.Bits.Mul64
import Derived.Test.YtcabeljiobiojaaGreatDoorProg
namespace Go.Proofs
open Tryz
theorem Tryz.cS2 {α:Type _} {a b:α} (h:a=b):some a=some b:=congrArg some h
open Go.Shelf
def Tryz.lays264_ren : Ren:=⟨fun | 264 => 149 | n => n, fun | 53 => 221 | 46 => 230 | n => n, fun | n => n⟩
theorem Tryz.lays264 : Go.Proofs.Lays.n264 Tryz.prog Tryz.lays264_ren:={
 mixed:=by kernel_rfl
 f264:=func149.trans (cS2 (by kernel_rfl))
 t46:=underlying230, a46:=isAgg230, z46:=sizeOf230,v46:=zeroValue230
 t53:=underlying221, a53:=isAgg221, z53:=sizeOf221,v53:=zeroValue221 }
open Go.RowKit Go.Lib in
theorem Tryz.bits_Mul64 (x y : Nat) (hx : x < 18446744073709551616) (hy : y < 18446744073709551616) (w : World) :
 Calls Tryz.prog 149 #[.int .u64 x, .int .u64 y] w fun e w' => e = .returned (.tuple #[.int .u64 ((x * y / 18446744073709551616 : Nat) : Int), .int .u64 ((x * y % 18446744073709551616 : Nat) : Int)]) ∧ w' = w:=Any.bits_Mul64 Tryz.lays264 x y hx hy w
end Go.Proofs
