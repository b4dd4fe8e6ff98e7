/-
  What 'build' makes of a struct with an array in it: the scanner's cells. Plain facts; no condition.
-/
import Derived.Test.YtpghimiecigakaaDoorLxY
namespace Go.Proofs.YtpghimiecigakaaDoor
open Go.RowKit
set_option linter.unusedVariables false

theorem fold_set (off : Nat) : ∀ (v : List Value) (k : Nat) (cs : Array Value), ((v.zipIdx k).foldl (fun (cs : Array Value) (x : Value × Nat) => cs.setIfInBounds (off + x.2) x.1) cs).size = cs.size ∧
    ∀ i, ((v.zipIdx k).foldl (fun (cs : Array Value) (x : Value × Nat) => cs.setIfInBounds (off + x.2) x.1) cs)[i]? = if off + k ≤ i ∧ i < off + k + v.length ∧ i < cs.size then v[i - (off + k)]? else cs[i]?
  | [], k, cs => by
    refine ⟨rfl, fun i => ?_⟩
    rw [if_neg (by simp; omega)]; rfl
  | x :: v, k, cs => by
    have ih := fold_set off v (k + 1) (cs.setIfInBounds (off + k) x)
    rw [List.zipIdx_cons, List.foldl_cons]
    refine ⟨by rw [ih.1]; simp, fun i => ?_⟩
    rw [ih.2 i]
    simp only [Array.size_setIfInBounds, List.length_cons]
    by_cases h1 : off + (k + 1) ≤ i ∧ i < off + (k + 1) + v.length ∧ i < cs.size
    · rw [if_pos h1, if_pos (by omega)]
      rw [show i - (off + k) = (i - (off + (k + 1))) + 1 by omega, List.getElem?_cons_succ]
    · rw [if_neg h1]
      by_cases h2 : i = off + k
      · subst h2
        by_cases h3 : off + k < cs.size
        · rw [if_pos (by omega), Array.getElem?_setIfInBounds_self_of_lt h3]; simp
        · rw [if_neg (by omega), Array.getElem?_eq_none (by simp; omega), Array.getElem?_eq_none (by omega)]
      · rw [Array.getElem?_setIfInBounds_ne (by omega), if_neg (by omega)]

theorem fold_arr (off : Nat) (v cs : Array Value) : (v.zipIdx.foldl (fun (cs : Array Value) (x : Value × Nat) => cs.setIfInBounds (off + x.2) x.1) cs).size = cs.size ∧
    ∀ i, (v.zipIdx.foldl (fun (cs : Array Value) (x : Value × Nat) => cs.setIfInBounds (off + x.2) x.1) cs)[i]? = if off ≤ i ∧ i < off + v.size ∧ i < cs.size then v[i - off]? else cs[i]? := by
  have h := fold_set off v.toList 0 cs
  rw [← Array.foldl_toList, Array.toList_zipIdx]
  simpa using h

theorem built_scan (s : ByteArray) (arr : Array Value) (mb : Nat) (ha : arr.size = 256) : ∃ C, Tryd.prog.built 40 [(0, .string s), (1, .agg arr), (2, .map (some mb))] = some C ∧ C.size = 258 ∧ C[0]? = some (.string s) ∧ (∀ j, j < 256 → C[1 + j]? = arr[j]?) ∧ C[257]? = some (.map (some mb)) := by
  obtain ⟨fs, hu, hp⟩ : ∃ fs, Tryd.prog.underlying 40 = some (.struct fs) ∧ fs.toList.mapM (fun f => (Tryd.prog.info? f.type).map fun i => (f.offset, i.size)) = some [(0, 1), (1, 256), (257, 1)] := ⟨_, Tryd.underlying40, by kernel_rfl⟩
  obtain ⟨it, hit, z, hz, hzs⟩ : ∃ it, Tryd.prog.info? 40 = some it ∧ ∃ z, it.zero = some z ∧ z.cells.size = 258 := by
    have h : (Tryd.prog.info? 40).map (fun i => i.zero.map (·.cells.size)) = some (some 258) := by kernel_rfl
    obtain ⟨it, hit, h2⟩ := Option.map_eq_some_iff.1 h
    obtain ⟨z, hz, h3⟩ := Option.map_eq_some_iff.1 h2
    exact ⟨it, hit, z, hz, h3⟩
  generalize hZ : z.cells = Z at *
  obtain ⟨s1, g1⟩ := fold_arr 0 #[.string s] Z
  obtain ⟨s2, g2⟩ := fold_arr 1 arr (((#[.string s] : Array Value)).zipIdx.foldl (fun (cs : Array Value) (x : Value × Nat) => cs.setIfInBounds (0 + x.2) x.1) Z)
  obtain ⟨s3, g3⟩ := fold_arr 257 #[.map (some mb)] (arr.zipIdx.foldl (fun (cs : Array Value) (x : Value × Nat) => cs.setIfInBounds (1 + x.2) x.1) (((#[.string s] : Array Value)).zipIdx.foldl (fun (cs : Array Value) (x : Value × Nat) => cs.setIfInBounds (0 + x.2) x.1) Z))
  refine ⟨((#[.map (some mb)] : Array Value)).zipIdx.foldl (fun (cs : Array Value) (x : Value × Nat) => cs.setIfInBounds (257 + x.2) x.1) (arr.zipIdx.foldl (fun (cs : Array Value) (x : Value × Nat) => cs.setIfInBounds (1 + x.2) x.1) (((#[.string s] : Array Value)).zipIdx.foldl (fun (cs : Array Value) (x : Value × Nat) => cs.setIfInBounds (0 + x.2) x.1) Z)), ?_, ?_, ?_, ?_, ?_⟩
  · unfold Program.built
    rw [hit, hu]
    simp only [hz, hp, hZ]
    have c1 : (Value.string s).cells = #[.string s] := rfl
    have c2 : (Value.agg arr).cells = arr := rfl
    have c3 : (Value.map (some mb)).cells = #[.map (some mb)] := rfl
    have p0 : (([(0, 1), (1, 256), (257, 1)] : List (Nat × Nat)).toArray)[0]? = some (0, 1) := rfl
    have p1 : (([(0, 1), (1, 256), (257, 1)] : List (Nat × Nat)).toArray)[1]? = some (1, 256) := rfl
    have p2 : (([(0, 1), (1, 256), (257, 1)] : List (Nat × Nat)).toArray)[2]? = some (257, 1) := rfl
    rw [Instr.fill, p0]
    simp only [c1]
    rw [if_neg (by rw [hzs]; simp), Instr.fill, p1]
    simp only [c2]
    rw [if_neg (by rw [s1, hzs, ha]; decide), Instr.fill, p2]
    simp only [c3]
    rw [if_neg (by rw [s2, s1, hzs]; simp), Instr.fill]
  · rw [s3, s2, s1, hzs]
  · rw [g3, if_neg (by omega), g2, if_neg (by omega), g1, if_pos (by rw [hzs]; simp)]; rfl
  · intro j hj
    rw [g3, if_neg (by omega), g2, if_pos (by rw [s1, hzs, ha]; omega), Nat.add_sub_cancel_left]
  · rw [g3, if_pos (by rw [s2, s1, hzs]; simp)]; rfl
theorem wpList_built {P : Program} {ops : Array Oper} {rest : List Oper} {o : Oper} {a : Act} {w : World} {Q : Exit → Act → World → Prop} (hg : o.guard = none) (t : TypeId) (parts : Array (Nat × Operand)) (ho : o.op = .build t parts)
    (vals : List (Nat × Value)) (hv : (parts.map fun (i, x) => (i, a.eval x)).toList = vals) (cells : Array Value) (hf : P.built t vals = some cells)
    (h : wpList P ops Q rest (a.put o.dst (.agg cells)) w) : wpList P ops Q (o :: rest) a w := by
  refine wpList_build hg t parts ho (by rw [hv, hf]; rfl) ?_
  rw [hv, hf]
  exact h
end Go.Proofs.YtpghimiecigakaaDoor
