/-
  Short names for laws that are used often. No condition.
-/
import Derived.WalkKit
import Derived.Lib.Hide
import Derived.Deep.Quiet
namespace Go.Proofs.YtcabeljiobiojaaGreatDoor
open Go.RowKit
theorem AI {a b:Prop} (x:a) (y:b):a ∧ b:=⟨x,y⟩
theorem QH {p:Prop} (h:p):RowKit.Hid p:=h
theorem QN (w:World) (o:Obj):(w.alloc o).heap[w.heap.size]? = some o:=heap_alloc_new w o
theorem CM {α:Type _} (y:α) {a:α} {l:List α} (h:a ∈ l):a ∈ y :: l:=List.mem_cons_of_mem y h
theorem MC {α:Type _} {a b:α} {l:List α} (h:a ∈ b :: l):a=b ∨ a ∈ l:=List.mem_cons.1 h
theorem LL {n m k:Nat} (h:n < m) (g:m ≤ k):n < k:=Nat.lt_of_lt_of_le h g
theorem QW {P:Program} {ops:Array Oper} {C:World → Prop} {Q:Act → Prop} {a:Act} (h:Q a):wpQuiet P ops C Q [] a:=h
theorem LR (n:Nat):n ≤ n:=Nat.le_refl n
theorem EX {α:Sort _} (a:α):∃ x,a=x:=⟨a,rfl⟩
end Go.Proofs.YtcabeljiobiojaaGreatDoor
