/-
  The law's words and exprs of parts, in plain words: what text each is, and how long. It speaks of no program; no condition.
-/
import Derived.Test.YtpokbepenacnpaaGreatDoorMPa
import Derived.Test.YtpokbepenacnpaaGreatDoorMPt
import Derived.Test.YtpokbepenacnpaaGreatDoorBase
import Derived.BigQuiet
import Derived.Test.YtpokbepenacnpaaGreatDoorMPf
import Derived.Handy
namespace Go.Proofs.YtpokbepenacnpaaGreatDoor
open Go.RowKit
set_option linter.unusedVariables false

def wdL (i : Nat) : Bs := ([[97], [98], [99], [100], [120], [121], [116, 46, 97], [116, 46, 98], [117, 46, 120], [117, 46, 121], [116, 46, 99], [117, 46, 122], [110, 111, 110, 101], [117, 46, 97]] : List Bs).getD i []
theorem wd_small {i : Nat} (h : i < 14) : (wdL i).length ≤ 4 ∧ wdL i ≠ [] := by
  have h2 : i = 0 ∨ i = 1 ∨ i = 2 ∨ i = 3 ∨ i = 4 ∨ i = 5 ∨ i = 6 ∨ i = 7 ∨ i = 8 ∨ i = 9 ∨ i = 10 ∨ i = 11 ∨ i = 12 ∨ i = 13 := by omega
  rcases h2 with rfl | rfl | rfl | rfl | rfl | rfl | rfl | rfl | rfl | rfl | rfl | rfl | rfl | rfl <;> decide
structure PartT where
  kind : Nat
  n : Nat
  s : Bs
def dg (n : Nat) : Bs := [UInt8.ofNat (48 + n % 10)]
def digF : Nat → Nat → Bs → Bs
  | 0, _, s => s
  | f + 1, n, s => if 9 < n then digF f (n / 10) (dg (n / 10) ++ s) else s
def digV (n : Nat) : Bs := digF 5 n (dg n)
def letV (s : Bs) : Bs := (s.take 20).filter (fun c => decide (c ≠ 39))
def constV (n : Nat) : Bs := ([[84, 82, 85, 69], [102, 97, 108, 115, 101], [78, 85, 76, 76]] : List Bs).getD n []
def atomP (p : PartT) : Bs :=
  if p.kind / 8 % 8 = 0 then digV p.n
  else if p.kind / 8 % 8 = 1 then digV p.n ++ [46] ++ digV (p.n % 1000)
  else if p.kind / 8 % 8 = 2 then [39] ++ letV p.s ++ [39]
  else if p.kind / 8 % 8 = 3 then constV (p.n % 3)
  else wdL (p.n % 14)
def opS (j : Nat) : Bs := ([[32, 43, 32], [32, 45, 32], [32, 42, 32], [32, 47, 32], [32, 61, 32], [32, 60, 32], [32, 65, 78, 68, 32], [32, 79, 82, 32], [32, 60, 62, 32], [32, 62, 61, 32], [32, 60, 61, 32], [32, 62, 32]] : List Bs).getD j []
def brk (s : Bs) : Bs := [40] ++ s ++ [41]
def stepV (s : Bs) (p : PartT) : Bs :=
  if p.kind % 8 = 0 then brk s ++ opS (p.n % 12) ++ atomP p
  else if p.kind % 8 = 1 then atomP p ++ opS (p.n % 12) ++ brk s
  else if p.kind % 8 = 2 then [78, 79, 84, 32] ++ brk s
  else if p.kind % 8 = 3 then [45, 32] ++ brk s
  else if p.kind % 8 = 4 then brk s ++ [32, 73, 83, 32, 78, 85, 76, 76]
  else if p.kind % 8 = 5 then brk s ++ [32, 105, 115, 32, 110, 111, 116, 32, 110, 117, 108, 108]
  else brk s ++ opS (p.n % 4) ++ atomP p
def exprN (l : List PartT) : Nat → Bs
  | 0 => match l with | [] => [49] | p :: _ => atomP p
  | i + 1 => match l[i + 1]? with | none => exprN l i | some p => stepV (exprN l i) p
def exprV (l : List PartT) : Bs := exprN l 11

theorem op12 {j : Nat} (h : j < 12) : j = 0 ∨ j = 1 ∨ j = 2 ∨ j = 3 ∨ j = 4 ∨ j = 5 ∨ j = 6 ∨ j = 7 ∨ j = 8 ∨ j = 9 ∨ j = 10 ∨ j = 11 := by omega
theorem opS_len {j : Nat} (h : j < 12) : (opS j).length ≤ 5 := by
  rcases op12 h with rfl | rfl | rfl | rfl | rfl | rfl | rfl | rfl | rfl | rfl | rfl | rfl <;> decide
theorem digF_len : ∀ (f n : Nat) (s : Bs), (digF f n s).length ≤ s.length + f := by
  intro f
  induction f with
  | zero => intro n s; exact Nat.le_refl _
  | succ f ih =>
    intro n s
    unfold digF
    split
    · have := ih (n / 10) (dg (n / 10) ++ s)
      have h2 : (dg (n / 10) ++ s).length = s.length + 1 := by simp [dg]
      omega
    · omega
theorem digV_len (n : Nat) : (digV n).length ≤ 6 := digF_len 5 n (dg n)
theorem letV_len (s : Bs) : (letV s).length ≤ 20 := by
  have h1 : (letV s).length ≤ (s.take 20).length := List.length_filter_le _ _
  rw [List.length_take] at h1
  omega
theorem atomP_small (p : PartT) : (atomP p).length ≤ 22 := by
  unfold atomP
  split
  · have := digV_len p.n; omega
  split
  · have h1 := digV_len p.n
    have h2 := digV_len (p.n % 1000)
    simp only [List.length_append, List.length_cons, List.length_nil]; omega
  split
  · have := letV_len p.s
    simp only [List.length_append, List.length_cons, List.length_nil]; omega
  split
  · have h3 : p.n % 3 = 0 ∨ p.n % 3 = 1 ∨ p.n % 3 = 2 := by omega
    rcases h3 with h | h | h <;> rw [h] <;> decide
  · have := (wd_small (i := p.n % 14) (Nat.mod_lt _ (by decide))).1; omega
theorem stepV_small (s : Bs) (p : PartT) : (stepV s p).length ≤ s.length + 30 := by
  have ha := atomP_small p
  have h12 := opS_len (j := p.n % 12) (Nat.mod_lt _ (by decide))
  have h4 := opS_len (j := p.n % 4) (by omega)
  unfold stepV brk
  split
  · simp only [List.length_append, List.length_cons, List.length_nil]; omega
  split
  · simp only [List.length_append, List.length_cons, List.length_nil]; omega
  split
  · simp only [List.length_append, List.length_cons, List.length_nil]; omega
  split
  · simp only [List.length_append, List.length_cons, List.length_nil]; omega
  split
  · simp only [List.length_append, List.length_cons, List.length_nil]; omega
  split
  · simp only [List.length_append, List.length_cons, List.length_nil]; omega
  · simp only [List.length_append, List.length_cons, List.length_nil]; omega
theorem exprN_small (l : List PartT) : ∀ i, (exprN l i).length ≤ 22 + 30 * i := by
  intro i
  induction i with
  | zero =>
    unfold exprN
    cases l with
    | nil => decide
    | cons p l => exact atomP_small p
  | succ i ih =>
    unfold exprN
    split
    · omega
    · rename_i p _
      have := stepV_small (exprN l i) p
      omega
theorem exprV_small (l : List PartT) : (exprV l).length ≤ 352 := exprN_small l 11
end Go.Proofs.YtpokbepenacnpaaGreatDoor

namespace Go.Proofs.YtpokbepenacnpaaGreatDoor
open Go.RowKit
set_option linter.unusedVariables false

set_option maxRecDepth 100000 in
set_option maxHeartbeats 4000000 in
theorem word13_any (w : World) (n : Nat) (hn : n < 65536) : Calls Tryz.prog 53 #[.int .u16 n] w fun e w' => e = .returned (.string ⟨(wdL (n % 14)).toArray⟩) ∧ Mods [] w w' := by
  obtain ⟨k, hk⟩ : ∃ k, n % 14 = k := ⟨_, rfl⟩
  have hk14 : k < 14 := by omega
  have hkz : (n : Int).tmod 14 = (k : Int) := by rw [Int.tmod_eq_emod_of_nonneg (by omega)]; omega
  rw [hk]
  have hki : (k : Int) < 14 := by omega
  have hc : ∀ (w : World), (w.alloc (.cells #[.string ⟨#[97]⟩, .string ⟨#[98]⟩, .string ⟨#[99]⟩, .string ⟨#[100]⟩, .string ⟨#[120]⟩, .string ⟨#[121]⟩, .string ⟨#[116, 46, 97]⟩, .string ⟨#[116, 46, 98]⟩, .string ⟨#[117, 46, 120]⟩, .string ⟨#[117, 46, 121]⟩, .string ⟨#[116, 46, 99]⟩, .string ⟨#[117, 46, 122]⟩, .string ⟨#[110, 111, 110, 101]⟩, .string ⟨#[117, 46, 97]⟩] 9)).cell? ⟨w.heap.size, k, none⟩ = some (.string ⟨(wdL k).toArray⟩) := fun w => by
    rw [cell_of_heap (heap_alloc_new w _) k]
    have h2 : k = 0 ∨ k = 1 ∨ k = 2 ∨ k = 3 ∨ k = 4 ∨ k = 5 ∨ k = 6 ∨ k = 7 ∨ k = 8 ∨ k = 9 ∨ k = 10 ∨ k = 11 ∨ k = 12 ∨ k = 13 := by omega
    rcases h2 with h | h | h | h | h | h | h | h | h | h | h | h | h | h <;> rw [h] <;> rfl
  have c0 := hc w
  have hM := (Mods.refl [] w).alloc (.cells #[.string ⟨#[97]⟩, .string ⟨#[98]⟩, .string ⟨#[99]⟩, .string ⟨#[100]⟩, .string ⟨#[120]⟩, .string ⟨#[121]⟩, .string ⟨#[116, 46, 97]⟩, .string ⟨#[116, 46, 98]⟩, .string ⟨#[117, 46, 120]⟩, .string ⟨#[117, 46, 121]⟩, .string ⟨#[116, 46, 99]⟩, .string ⟨#[117, 46, 122]⟩, .string ⟨#[110, 111, 110, 101]⟩, .string ⟨#[117, 46, 97]⟩] 9)
  clear hc hk
  generalize wdL k = W at *
  go_enter Tryz.func53, Tryz.ntmps53
  go_wp2_with fail
  go_ret
  exact ⟨rfl, hM⟩
end Go.Proofs.YtpokbepenacnpaaGreatDoor

namespace Go.Proofs.YtpokbepenacnpaaGreatDoor
open Go.RowKit
set_option linter.unusedVariables false

/-- A world later than w, in which w's blocks stand as they stood. -/
structure Later (w : World) where
  val : World
  mods : Mods [] w val
instance {w : World} : Nonempty (Later w) := ⟨⟨w, Mods.refl [] w⟩⟩
theorem region_later {P : Program} {id : Nat} {Q : Exit → Act → World → Prop} {a : Act} {w : World} {l : List Oper} (hm : P.follows .mixedOrders = true) (hB : Region.lexB .any l.toArray = true)
    (h : wpQuiet P l.toArray (fun w' => ∃ k : Later w, w' = k.val) (fun a' => ∀ w', (∃ k : Later w, w' = k.val) → Q .normal a' w') l a) : (Code.region id l.toArray true).wp P Q a w :=
  wp_region_quiet (C := fun w' => ∃ k : Later w, w' = k.val) hm hB ⟨⟨w.drew, (Mods.refl [] w).drew⟩, rfl⟩ (by simpa using h)
end Go.Proofs.YtpokbepenacnpaaGreatDoor

namespace Go.Proofs.YtpokbepenacnpaaGreatDoor
open Go.RowKit
set_option linter.unusedVariables false

theorem dg_nat (n : Nat) : (UInt8.ofNat (48 + n % 10)).toNat = 48 + n % 10 := by
  rw [UInt8.toNat_ofNat']
  omega
theorem convD (w : World) (n : Nat) : (convert 119 9 (.slice (some ⟨w.heap.size, 0, none⟩) 1 1)).run Tryz.prog (w.alloc (.cells #[.int .u8 (48 + (n : Int) % 10)] 5)) = .ok (.string ⟨(dg n).toArray⟩) (w.alloc (.cells #[.int .u8 (48 + (n : Int) % 10)] 5)) := by
  have := run_convert_bytes_back (P := Tryz.prog) (w.alloc (.cells #[.int .u8 (48 + (n : Int) % 10)] 5)) 119 9 5 ⟨w.heap.size, 0, none⟩ 1 (dg n) Tryz.underlying119 Tryz.underlying5 Tryz.underlying9 (by
    intro j hj
    obtain rfl : j = 0 := by simp only [dg, List.length_cons, List.length_nil] at hj; omega
    rw [addr_add, cell_of_heap (heap_alloc_new w _)]
    have : (((UInt8.ofNat (48 + n % 10)).toNat : Nat) : Int) = 48 + (n : Int) % 10 := by rw [dg_nat]; omega
    show some (Value.int .u8 (48 + (n : Int) % 10)) = some (Value.int .u8 (((UInt8.ofNat (48 + n % 10)).toNat : Nat) : Int))
    rw [this])
  exact this
theorem digF_stop {f m : Nat} {s : Bs} (h : ¬ 9 < m) : digF f m s = s := by
  cases f with
  | zero => rfl
  | succ f => unfold digF; rw [if_neg h]

set_option maxRecDepth 100000 in
set_option maxHeartbeats 4000000 in
theorem digits_any (w : World) (n : Nat) (hn : n < 65536) : Calls Tryz.prog 26 #[.int .u16 n] w fun e w' => e = .returned (.string ⟨(digV n).toArray⟩) ∧ Mods [] w w' := by
  have hc0 := convD w n
  have hwz : ∀ m : Nat, IntKind.u16.wrap (48 + (m : Int) % 10) = 48 + (m : Int) % 10 := fun m => IntWalk.u16_in _ (by omega)
  have hvz : ∀ m : Nat, IntKind.u8.wrap (48 + (m : Int) % 10) = 48 + (m : Int) % 10 := fun m => IntWalk.u8_in _ (by omega)
  have hw1 := hwz n
  have hv1 := hvz n
  have hD : (⟨(dg n).toArray⟩ : ByteArray).size ≤ 1 := Nat.le_refl _
  obtain ⟨D, hDe⟩ : ∃ D : ByteArray, (⟨(dg n).toArray⟩ : ByteArray) = D := ⟨_, rfl⟩
  rw [hDe] at hc0
  have HD := Lib.hid hDe
  have hM0 := (Mods.refl [] w).alloc (.cells #[.int .u8 (48 + (n : Int) % 10)] 5)
  clear hDe hD
  go_enter Tryz.func26, Tryz.ntmps26
  go_wp2_with fail
  clear hc0 hw1 hv1
  go_loopg [0, 3] 5 (fun gk t0 t3 wr => ∃ (m : Nat) (s : Bs), t0 = .int .u16 m ∧ t3 = .string ⟨s.toArray⟩ ∧ m < 10 ^ gk ∧ m < 65536 ∧ s.length + gk = 6 ∧ digF gk m s = digV n ∧ Mods [] w wr)
  case atStart => exact ⟨n, dg n, rfl, by rw [HD.out], by omega, hn, rfl, rfl, hM0⟩
  obtain ⟨m, s, rfl, rfl, hm10, hm, hsl, hF, hMr⟩ := hrel
  by_cases h9 : 9 < m
  · cases gk with
    | zero => omega
    | succ gk =>
    have hF2 : digF gk (m / 10) (dg (m / 10) ++ s) = digV n := by
      rw [← hF]
      show _ = if 9 < m then _ else _
      rw [if_pos h9]
    have hlen : (dg (m / 10) ++ s).length + gk = 6 := by
      rw [List.length_append]
      show 1 + s.length + gk = 6
      omega
    have hm2 : m / 10 < 10 ^ gk := by
      rw [Nat.pow_succ] at hm10
      exact Nat.div_lt_of_lt_mul (by omega)
    have hqz : IntKind.u16.wrap ((m : Int).tdiv 10) = ((m / 10 : Nat) : Int) := by
      rw [Int.tdiv_eq_ediv_of_nonneg (by omega)]
      exact (IntWalk.u16_in _ (by omega)).trans (by omega)
    have hc := convD wr (m / 10)
    have hw1 := hwz (m / 10)
    have hv1 := hvz (m / 10)
    have hcat : (⟨(dg (m / 10)).toArray⟩ : ByteArray) ++ ⟨s.toArray⟩ = ⟨(dg (m / 10) ++ s).toArray⟩ := cat2 _ _
    have hs1 : (⟨s.toArray⟩ : ByteArray).size ≤ 6 := by show s.length ≤ 6; omega
    have hs2 : (⟨(dg (m / 10)).toArray⟩ : ByteArray).size = 1 := rfl
    have hMn := hMr.alloc (.cells #[.int .u8 (48 + ((m / 10 : Nat) : Int) % 10)] 5)
    have hM6 : m / 10 < 65536 := by omega
    have hgz : (9 : Int) < (m : Int) := by omega
    have e10 : ((m / 10 : Nat) : Int) = (m : Int) / 10 := by omega
    rw [e10] at hc hw1 hv1 hMn hqz
    obtain ⟨D1, hD1⟩ : ∃ D : ByteArray, (⟨(dg (m / 10)).toArray⟩ : ByteArray) = D := ⟨_, rfl⟩
    obtain ⟨S1, hS1⟩ : ∃ D : ByteArray, (⟨s.toArray⟩ : ByteArray) = D := ⟨_, rfl⟩
    rw [hD1] at hc hcat hs2
    rw [hS1] at hcat hs1
    rw [hS1]
    have n1 : ¬ 9223372036854775807 < D1.size + S1.size := by omega
    have HC := Lib.hid hcat
    have HF := Lib.hid (And.intro hm2 (And.intro hlen hF2))
    clear hcat hF hF2 hlen hm2 hm10 h9 hD1 hS1 hwz hvz hsl HD e10
    go_wp2_with fail
    go_roundg gk
    case measure => omega
    case rel => exact ⟨m / 10, dg (m / 10) ++ s, by go_num, by rw [HC.out], HF.out.1, hM6, HF.out.2.1, HF.out.2.2, hMn⟩
  · rw [digF_stop h9] at hF
    subst hF
    have hgz : ¬ (9 : Int) < (m : Int) := by omega
    clear hm10 h9 hwz hvz hsl HD
    go_wp2_with fail
    go_ret
    exact ⟨rfl, hMr⟩

def letN (s : Bs) (i : Nat) : Bs := (s.take i).filter (fun c => decide (c ≠ 39))
theorem letN_succ (s : Bs) (i : Nat) (h : i < s.length) : letN s (i + 1) = if s[i] = 39 then letN s i else letN s i ++ [s[i]] := by
  unfold letN
  rw [List.take_add_one, List.getElem?_eq_getElem h, List.filter_append]
  by_cases hc : s[i] = 39
  · rw [if_pos hc, hc]; simp
  · rw [if_neg hc]; simp [hc]
theorem letN_end (s : Bs) (i : Nat) (h : s.length ≤ i ∨ i = 20) (h20 : i ≤ 20) : letN s i = letV s := by
  unfold letN letV
  rcases h with h | rfl
  · rw [List.take_of_length_le h, List.take_of_length_le (by omega)]
  · rfl
theorem letN_len (s : Bs) (i : Nat) : (letN s i).length ≤ i := by
  have h1 : (letN s i).length ≤ (s.take i).length := List.length_filter_le _ _
  rw [List.length_take] at h1
  omega
set_option maxRecDepth 100000 in
set_option maxHeartbeats 4000000 in
theorem letters_any (w : World) (S : ByteArray) (hS : S.size ≤ 9223372036854775807) : Calls Tryz.prog 110 #[.string S] w fun e w' => e = .returned (.string ⟨(letV S.data.toList).toArray⟩) ∧ Mods [] w w' := by
  have hM := Mods.refl [] w
  go_enter Tryz.func110, Tryz.ntmps110
  go_wp2_with fail
  go_loopg [3, 4] 20 (fun gk t3 t4 wr => ∃ i : Nat, i + gk = 20 ∧ i ≤ S.size ∧ t4 = .int .i64 i ∧ t3 = .string ⟨(letN S.data.toList i).toArray⟩ ∧ w = wr)
  case atStart => exact ⟨0, by omega, by omega, rfl, rfl, rfl⟩
  obtain ⟨i, hi, his, rfl, rfl, rfl⟩ := hrel
  by_cases hlt : i < S.size ∧ i < 20
  · obtain ⟨hlt2, hlt3⟩ := hlt
    have hz1 : (i : Int) < (S.size : Int) := by omega
    have hz2 : (i : Int) < 20 := by omega
    have hl : S.data.toList.length = S.size := rfl
    have hil : i < S.data.toList.length := by omega
    have hn := letN_succ S.data.toList i hil
    have hsz := letN_len S.data.toList i
    obtain ⟨c, hc⟩ : ∃ c, S.data.toList[i] = c := ⟨_, rfl⟩
    rw [hc] at hn
    have hci : S[i]'hlt2 = c := by
      have hx := s_at S i hlt2
      rw [List.getElem?_eq_getElem hil, hc] at hx
      exact (Option.some.inj hx).symm
    have hX : S.extract i (i + 1) = ⟨#[c]⟩ := by
      refine bytes_of (l := [c]) ?_
      rw [ext_list, List.drop_eq_getElem_cons hil, hc]; rfl
    by_cases h39 : c = 39
    · rw [if_pos h39] at hn
      have z : ((c.toNat : Int) != 39) = false := by rw [h39]; rfl
      have HN := Lib.hid hn
      clear hn hsz hc hX h39
      go_wp2_with fail
      go_roundg (20 - (i + 1))
      case measure => omega
      case rel => exact ⟨i + 1, by omega, by omega, by go_num, by rw [HN.out], rfl⟩
    · rw [if_neg h39] at hn
      have z : ((c.toNat : Int) != 39) = true := bne_iff_ne.2 (fun h => h39 (UInt8.toNat_inj.1 (by show c.toNat = 39; omega)))
      have hcat : (⟨(letN S.data.toList i).toArray⟩ : ByteArray) ++ ⟨#[c]⟩ = ⟨(letN S.data.toList i ++ [c]).toArray⟩ := cat2 _ [c]
      rw [← hn] at hcat
      have hsz2 : (⟨(letN S.data.toList i).toArray⟩ : ByteArray).size ≤ 20 := by show (letN S.data.toList i).length ≤ 20; omega
      obtain ⟨N, hN⟩ : ∃ N : ByteArray, (⟨(letN S.data.toList i).toArray⟩ : ByteArray) = N := ⟨_, rfl⟩
      rw [hN] at hcat hsz2
      rw [hN]
      have n1 : ¬ 9223372036854775807 < N.size + 1 := by omega
      have HC := Lib.hid hcat
      have hi1 : (i : Int) + 1 ≤ (S.size : Int) := by omega
      have hi2 : ((i : Int) + 1).toNat = i + 1 := by omega
      have hi3 : IntKind.i64.wrap ((i : Int) + 1) = (i : Int) + 1 := IntWalk.i64_in _ (by omega)
      have hi4 : (0 : Int) ≤ (i : Int) + 1 := by omega
      have hi5 : (i : Int) ≤ (i : Int) + 1 := by omega
      clear hn hsz hc h39 hcat hN
      go_wp2_with fail
      go_roundg (20 - (i + 1))
      case measure => omega
      case rel => exact ⟨i + 1, by omega, by omega, by go_num, by rw [HC.out], rfl⟩
  · have hend := letN_end S.data.toList i (by have hl : S.data.toList.length = S.size := rfl; omega) (by omega)
    rw [hend]
    have hcase : (i : Int) < (S.size : Int) ∧ ¬ (i : Int) < 20 ∨ ¬ (i : Int) < (S.size : Int) := by omega
    clear hend hlt
    rcases hcase with ⟨z1, z2⟩ | z1
    · go_wp2_with fail
      go_ret
      exact ⟨rfl, hM⟩
    · go_wp2_with fail
      go_ret
      exact ⟨rfl, hM⟩
end Go.Proofs.YtpokbepenacnpaaGreatDoor

namespace Go.Proofs.YtpokbepenacnpaaGreatDoor
open Go.RowKit
set_option linter.unusedVariables false

/-- Parts, as they lie in memory. -/
def PartsIn (w : World) (a : Option Addr) (l : List PartT) : Prop :=
  0 < l.length → ∃ b off, a = some ⟨b, off, none⟩ ∧ ∀ i (h : i < l.length), w.cell? ⟨b, off + i * 3, none⟩ = some (.int .u8 (l[i].kind : Nat)) ∧ w.cell? ⟨b, off + i * 3 + 1, none⟩ = some (.int .u16 (l[i].n : Nat)) ∧ w.cell? ⟨b, off + i * 3 + 2, none⟩ = some (.string ⟨l[i].s.toArray⟩)
def PartOk (p : PartT) : Prop := p.kind < 256 ∧ p.n < 65536 ∧ p.s.length ≤ 9223372036854775807
theorem PartsIn.mods {w w' : World} {a : Option Addr} {l : List PartT} (h : PartsIn w a l) (hM : Mods [] w w') : PartsIn w' a l := fun h0 => by
  obtain ⟨b, off, e, hc⟩ := h h0
  exact ⟨b, off, e, fun i hi => ⟨hM.cell (hc i hi).1 (by simp), hM.cell (hc i hi).2.1 (by simp), hM.cell (hc i hi).2.2 (by simp)⟩⟩
def atomV (l : List PartT) (i : Nat) : Bs := match l[i]? with | none => [49] | some p => atomP p
theorem atom_q {p : PartT} {q : Nat} (h : p.kind / 8 % 8 = q) : atomP p = if q = 0 then digV p.n else if q = 1 then digV p.n ++ [46] ++ digV (p.n % 1000) else if q = 2 then [39] ++ letV p.s ++ [39] else if q = 3 then constV (p.n % 3) else wdL (p.n % 14) := by
  unfold atomP; rw [h]
theorem const_at (w : World) (i : Nat) (h : i < 3) : (w.alloc (.cells #[.string ⟨#[84, 82, 85, 69]⟩, .string ⟨#[102, 97, 108, 115, 101]⟩, .string ⟨#[78, 85, 76, 76]⟩] 9)).cell? ⟨w.heap.size, i, none⟩ = some (.string ⟨(constV i).toArray⟩) := by
  rw [cell_of_heap (heap_alloc_new w _) i]
  have h3 : i = 0 ∨ i = 1 ∨ i = 2 := by omega
  rcases h3 with rfl | rfl | rfl <;> rfl

set_option maxRecDepth 100000 in
set_option maxHeartbeats 4000000 in
theorem atom_any (w : World) (a : Option Addr) (l : List PartT) (cap : Nat) (hP : PartsIn w a l) (hl : l.length ≤ 9223372036854775807) (hok : ∀ p ∈ l, PartOk p) (i : Nat) (hi : i ≤ 100) :
    Calls Tryz.prog 52 #[.slice a l.length cap, .int .i64 i] w fun e w' => e = .returned (.string ⟨(atomV l i).toArray⟩) ∧ Mods [] w w' := by
  by_cases hlt : i < l.length
  · obtain ⟨b, off, rfl, hc⟩ := hP (by omega)
    obtain ⟨c1, c2, c3⟩ := hc i hlt
    have hpk := hok _ (List.getElem_mem hlt)
    have hav : atomV l i = atomP l[i] := by unfold atomV; rw [List.getElem?_eq_getElem hlt]
    rw [hav]
    clear hc hav hok hP
    generalize l[i] = p at *
    obtain ⟨h256, hn, hs⟩ := hpk
    obtain ⟨q, hq⟩ : ∃ q, p.kind / 8 % 8 = q := ⟨_, rfl⟩
    have hqz : (p.kind : Int) / 8 % 8 = (q : Int) := by omega
    have hq8 : q < 8 := by omega
    rw [atom_q hq]
    clear hq
    generalize p.kind = kd at *
    generalize p.n = n at *
    generalize p.s = s at *
    have hz1 : (i : Int) < (l.length : Int) := by omega
    have hge : ¬ (l.length : Int) ≤ (i : Int) := by omega
    generalize l.length = len at *
    have hM0 := Mods.refl [] w
    have hq5 : q = 0 ∨ q = 1 ∨ q = 2 ∨ q = 3 ∨ (q ≠ 0 ∧ q ≠ 1 ∧ q ≠ 2 ∧ q ≠ 3) := by omega
    rcases hq5 with rfl | rfl | rfl | rfl | ⟨q0, q1, q2, q3⟩
    · have hd := digits_any w n hn
      rw [if_pos rfl]
      change (kd : Int) / 8 % 8 = 0 at hqz
      go_enter Tryz.func52, Tryz.ntmps52
      go_wp2_with fail
      (with_reducible refine hd.mono ?_)
      rintro e w2 ⟨rfl, hM⟩
      clear hd
      go_wp2_with fail
      go_ret
      exact ⟨rfl, hM⟩
    · rw [if_neg (by decide), if_pos rfl]
      change (kd : Int) / 8 % 8 = 1 at hqz
      obtain ⟨D1, hD1⟩ : ∃ L : ByteArray, (⟨(digV n).toArray⟩ : ByteArray) = L := ⟨_, rfl⟩
      obtain ⟨D2, hD2⟩ : ∃ L : ByteArray, (⟨(digV (n % 1000)).toArray⟩ : ByteArray) = L := ⟨_, rfl⟩
      have hs1 : D1.size ≤ 6 := by rw [← hD1]; exact digV_len n
      have hs2 : D2.size ≤ 6 := by rw [← hD2]; exact digV_len (n % 1000)
      have hcat : D1 ++ ⟨#[46]⟩ ++ D2 = ⟨(digV n ++ [46] ++ digV (n % 1000)).toArray⟩ := by rw [← hD1, ← hD2]; exact cat3 (digV n) [46] (digV (n % 1000))
      have e10 : ((n % 1000 : Nat) : Int) = (n : Int) % 1000 := by omega
      have kd1 : ∀ k : Later w, Calls Tryz.prog 26 #[.int .u16 n] k.val fun e w' => e = .returned (.string D1) ∧ ∃ k' : Later w, w' = k'.val := fun k =>
        (digits_any k.val n hn).mono fun e w' h => ⟨by rw [h.1, hD1], ⟨_, k.mods.trans h.2 (by simp)⟩, rfl⟩
      have kd2 : ∀ k : Later w, Calls Tryz.prog 26 #[.int .u16 ((n : Int) % 1000)] k.val fun e w' => e = .returned (.string D2) ∧ ∃ k' : Later w, w' = k'.val := fun k => by
        have := digits_any k.val (n % 1000) (by omega)
        rw [e10] at this
        exact this.mono fun e w' h => ⟨by rw [h.1, hD2], ⟨_, k.mods.trans h.2 (by simp)⟩, rfl⟩
      have k1 : ∀ k : Later w, k.val.cell? ⟨b, off + i * 3 + 1, none⟩ = some (.int .u16 (n : Nat)) := fun k => k.mods.cell c2 (by simp)
      rw [← hcat]
      clear hcat hD1 hD2 e10
      have n1 : ¬ 9223372036854775807 < D1.size + 1 := by omega
      have n2 : ¬ 9223372036854775807 < D1.size + 1 + D2.size := by omega
      have HK1 := Lib.hid kd1
      have HK2 := Lib.hid kd2
      clear kd1 kd2
      go_enter Tryz.func52, Tryz.ntmps52
      go_upto_region 7 with fail
      refine region_later (by kernel_rfl) (by kernel_rfl) ?_
      repeat (go_big_quiet_step (first | with_reducible exact HK1.out _ | with_reducible exact HK2.out _))
      refine wpQuiet_nil ?_
      rintro _ ⟨kk, rfl⟩
      go_wp2_with fail
      go_ret
      exact ⟨rfl, kk.mods⟩
    · have hd := letters_any w ⟨s.toArray⟩ hs
      rw [if_neg (by decide), if_neg (by decide), if_pos rfl]
      change (kd : Int) / 8 % 8 = 2 at hqz
      obtain ⟨L, hL⟩ : ∃ L : ByteArray, (⟨(letV s).toArray⟩ : ByteArray) = L := ⟨_, rfl⟩
      have hLs : L.size ≤ 20 := by rw [← hL]; exact letV_len s
      have hcat : (⟨#[39]⟩ : ByteArray) ++ L ++ ⟨#[39]⟩ = ⟨([39] ++ letV s ++ [39]).toArray⟩ := by rw [← hL]; exact cat3 [39] (letV s) [39]
      rw [show (⟨s.toArray⟩ : ByteArray).data.toList = s from rfl, hL] at hd
      rw [← hcat]
      clear hcat hL
      have n1 : ¬ 9223372036854775807 < 1 + L.size := by omega
      have n2 : ¬ 9223372036854775807 < 1 + L.size + 1 := by omega
      go_enter Tryz.func52, Tryz.ntmps52
      go_wp2_with fail
      (with_reducible refine hd.mono ?_)
      rintro e w2 ⟨rfl, hM⟩
      clear hd
      go_wp2_with fail
      go_ret
      exact ⟨rfl, hM⟩
    · rw [if_neg (by decide), if_neg (by decide), if_neg (by decide), if_pos rfl]
      change (kd : Int) / 8 % 8 = 3 at hqz
      obtain ⟨k, hk⟩ : ∃ k, n % 3 = k := ⟨_, rfl⟩
      have hk3 : k < 3 := by omega
      have hkz : (n : Int) % 3 = (k : Int) := by omega
      have hki : (k : Int) < 3 := by omega
      have cc := const_at w k hk3
      have hMa := (Mods.refl [] w).alloc (.cells #[.string ⟨#[84, 82, 85, 69]⟩, .string ⟨#[102, 97, 108, 115, 101]⟩, .string ⟨#[78, 85, 76, 76]⟩] 9)
      have d2 := hMa.cell c2 (by simp)
      rw [hk]
      clear hk
      generalize constV k = W at *
      go_enter Tryz.func52, Tryz.ntmps52
      go_wp2_with fail
      go_ret
      exact ⟨rfl, hMa⟩
    · have hd := word13_any w n hn
      rw [if_neg q0, if_neg q1, if_neg q2, if_neg q3]
      have z0 : ((q : Int) == 0) = false := beq_eq_false_iff_ne.2 (by omega)
      have z1 : ((q : Int) == 1) = false := beq_eq_false_iff_ne.2 (by omega)
      have z2 : ((q : Int) == 2) = false := beq_eq_false_iff_ne.2 (by omega)
      have z3 : ((q : Int) == 3) = false := beq_eq_false_iff_ne.2 (by omega)
      clear q0 q1 q2 q3
      go_enter Tryz.func52, Tryz.ntmps52
      go_wp2_with fail
      (with_reducible refine hd.mono ?_)
      rintro e w2 ⟨rfl, hM⟩
      clear hd
      go_wp2_with fail
      go_ret
      exact ⟨rfl, hM⟩
  · have hav : atomV l i = [49] := by unfold atomV; rw [List.getElem?_eq_none (by omega)]
    rw [hav]
    have hz1 : (l.length : Int) ≤ (i : Int) := by omega
    have hM0 := Mods.refl [] w
    clear hav hok hP
    generalize l.length = len at *
    go_enter Tryz.func52, Tryz.ntmps52
    go_wp2_with fail
    go_ret
    exact ⟨rfl, hM0⟩
end Go.Proofs.YtpokbepenacnpaaGreatDoor

namespace Go.Proofs.YtpokbepenacnpaaGreatDoor
open Go.RowKit
set_option linter.unusedVariables false

theorem exprN_stop {l : List PartT} {j : Nat} (h : l.length ≤ j + 1) : ∀ m, j ≤ m → exprN l m = exprN l j := by
  intro m
  induction m with
  | zero => intro hm; obtain rfl : j = 0 := by omega
            rfl
  | succ m ih =>
    intro hm
    rcases Nat.lt_or_ge m j with h2 | h2
    · obtain rfl : j = m + 1 := by omega
      rfl
    · rw [← ih h2]
      show (match l[m + 1]? with | none => exprN l m | some p => stepV (exprN l m) p) = _
      rw [List.getElem?_eq_none (by omega)]
theorem exprN_zero (l : List PartT) : exprN l 0 = atomV l 0 := by cases l <;> rfl
theorem exprN_next (l : List PartT) (i : Nat) (h0 : 1 ≤ i) (h : i < l.length) : exprN l i = stepV (exprN l (i - 1)) l[i] := by
  obtain ⟨j, rfl⟩ : ∃ j, i = j + 1 := ⟨i - 1, by omega⟩
  show (match l[j + 1]? with | none => exprN l j | some p => stepV (exprN l j) p) = _
  rw [List.getElem?_eq_getElem h]
  rfl
theorem ops_at (w : World) (j : Nat) (h : j < 12) : (w.alloc (.cells #[.string ⟨#[32, 43, 32]⟩, .string ⟨#[32, 45, 32]⟩, .string ⟨#[32, 42, 32]⟩, .string ⟨#[32, 47, 32]⟩, .string ⟨#[32, 61, 32]⟩, .string ⟨#[32, 60, 32]⟩, .string ⟨#[32, 65, 78, 68, 32]⟩, .string ⟨#[32, 79, 82, 32]⟩, .string ⟨#[32, 60, 62, 32]⟩, .string ⟨#[32, 62, 61, 32]⟩, .string ⟨#[32, 60, 61, 32]⟩, .string ⟨#[32, 62, 32]⟩] 9)).cell? ⟨w.heap.size, j, none⟩ = some (.string ⟨(opS j).toArray⟩) := by
  rw [cell_of_heap (heap_alloc_new w _) j]
  rcases op12 h with rfl | rfl | rfl | rfl | rfl | rfl | rfl | rfl | rfl | rfl | rfl | rfl <;> rfl
theorem step_q {s : Bs} {p : PartT} {q : Nat} (h : p.kind % 8 = q) : stepV s p = if q = 0 then brk s ++ opS (p.n % 12) ++ atomP p
  else if q = 1 then atomP p ++ opS (p.n % 12) ++ brk s
  else if q = 2 then [78, 79, 84, 32] ++ brk s
  else if q = 3 then [45, 32] ++ brk s
  else if q = 4 then brk s ++ [32, 73, 83, 32, 78, 85, 76, 76]
  else if q = 5 then brk s ++ [32, 105, 115, 32, 110, 111, 116, 32, 110, 117, 108, 108]
  else brk s ++ opS (p.n % 4) ++ atomP p := by
  unfold stepV; rw [h]
set_option maxRecDepth 100000 in
set_option maxHeartbeats 8000000 in
theorem expr13_any (w : World) (a : Option Addr) (l : List PartT) (cap : Nat) (hP : PartsIn w a l) (hl : l.length ≤ 9223372036854775807) (hok : ∀ p ∈ l, PartOk p) :
    Calls Tryz.prog 25 #[.slice a l.length cap] w fun e w' => e = .returned (.string ⟨(exprV l).toArray⟩) ∧ Mods [] w w' := by
  have hat := fun (w1 : World) (hM : Mods [] w w1) (i : Nat) (hi : i ≤ 100) => atom_any w1 a l cap (hP.mods hM) hl hok i hi
  have h0 : Calls Tryz.prog 52 #[.slice a l.length cap, .int .i64 0] w _ := hat w (Mods.refl [] w) 0 (by decide)
  rw [← exprN_zero] at h0
  have HAT := Lib.hid hat
  have HP := Lib.hid (And.intro hP hok)
  clear hat hP hok
  obtain ⟨len, hlen⟩ : ∃ n, l.length = n := ⟨_, rfl⟩
  have HLEN := Lib.hid hlen
  rw [hlen] at h0 hl
  rw [hlen]
  clear hlen
  go_enter Tryz.func25, Tryz.ntmps25
  go_wp2_with fail
  (with_reducible refine h0.mono ?_)
  rintro e w1 ⟨rfl, hM1⟩
  clear h0
  go_wp2_with fail
  go_loopg [3, 4] 11 (fun gk t3 t4 wr => ∃ i : Nat, i + gk = 12 ∧ 1 ≤ i ∧ t4 = .int .i64 i ∧ t3 = .string ⟨(exprN l (i - 1)).toArray⟩ ∧ Mods [] w wr)
  case atStart => exact ⟨1, by omega, by omega, rfl, rfl, hM1⟩
  obtain ⟨i, hi, hi1, rfl, rfl, hMr⟩ := hrel
  have hsz := exprN_small l (i - 1)
  by_cases hlt : i < len ∧ i < 12
  · obtain ⟨hlt1, hlt2⟩ := hlt
    have hil : i < l.length := by rw [HLEN.out]; exact hlt1
    have hz1 : (i : Int) < (len : Int) := by omega
    have hz2 : (i : Int) < 12 := by omega
    obtain ⟨b, off, rfl, hc⟩ := HP.out.1 (by omega)
    obtain ⟨c1, c2, -⟩ := hc i hil
    obtain ⟨hp1, hp2, -⟩ := HP.out.2 _ (List.getElem_mem hil)
    have hnx := exprN_next l i hi1 hil
    have hav : atomV l i = atomP l[i] := by unfold atomV; rw [List.getElem?_eq_getElem hil]
    have hMa := hMr.trans ((Mods.refl [] wr).alloc (.cells #[.string ⟨#[32, 43, 32]⟩, .string ⟨#[32, 45, 32]⟩, .string ⟨#[32, 42, 32]⟩, .string ⟨#[32, 47, 32]⟩, .string ⟨#[32, 61, 32]⟩, .string ⟨#[32, 60, 32]⟩, .string ⟨#[32, 65, 78, 68, 32]⟩, .string ⟨#[32, 79, 82, 32]⟩, .string ⟨#[32, 60, 62, 32]⟩, .string ⟨#[32, 62, 61, 32]⟩, .string ⟨#[32, 60, 61, 32]⟩, .string ⟨#[32, 62, 32]⟩] 9)) (by simp)
    have hca := HAT.out _ hMa i (by omega)
    rw [hav, HLEN.out] at hca
    obtain ⟨p, hp⟩ : ∃ p, l[i] = p := ⟨_, rfl⟩
    rw [hp] at c1 c2 hp1 hp2 hnx hca
    obtain ⟨q, hq⟩ : ∃ q, p.kind % 8 = q := ⟨_, rfl⟩
    have hqz : (p.kind : Int) % 8 = (q : Int) := by omega
    rw [step_q hq] at hnx
    obtain ⟨m, hm⟩ : ∃ m, p.n % 12 = m := ⟨_, rfl⟩
    obtain ⟨m4, hm4⟩ : ∃ m, p.n % 4 = m := ⟨_, rfl⟩
    rw [hm, hm4] at hnx
    have hmz : (p.n : Int) % 12 = (m : Int) := by omega
    have hm4z : (p.n : Int) % 4 = (m4 : Int) := by omega
    have hm12 : m < 12 := by omega
    have hm44 : m4 < 4 := by omega
    have hmi : (m : Int) < 12 := by omega
    have hm4i : (m4 : Int) < 12 := by omega
    have hops := opS_len hm12
    have hops4 := opS_len (j := m4) (by omega)
    have hAs := atomP_small p
    have o1 := ops_at wr m hm12
    have o2 := ops_at wr m4 (by omega)
    have hq7 : q = 0 ∨ q = 1 ∨ q = 2 ∨ q = 3 ∨ q = 4 ∨ q = 5 ∨ (q ≠ 0 ∧ q ≠ 1 ∧ q ≠ 2 ∧ q ≠ 3 ∧ q ≠ 4 ∧ q ≠ 5) := by omega
    have hEs : (⟨(exprN l (i - 1)).toArray⟩ : ByteArray).size ≤ 400 := by show (exprN l (i - 1)).length ≤ 400; omega
    have hTs : (⟨(atomP p).toArray⟩ : ByteArray).size ≤ 22 := hAs
    have hOs : (⟨(opS m).toArray⟩ : ByteArray).size ≤ 5 := hops
    have hO4 : (⟨(opS m4).toArray⟩ : ByteArray).size ≤ 5 := hops4
    have hcat : (⟨(exprN l i).toArray⟩ : ByteArray) = if q = 0 then ⟨#[40]⟩ ++ ⟨(exprN l (i - 1)).toArray⟩ ++ ⟨#[41]⟩ ++ ⟨(opS m).toArray⟩ ++ ⟨(atomP p).toArray⟩
        else if q = 1 then ⟨(atomP p).toArray⟩ ++ ⟨(opS m).toArray⟩ ++ ⟨#[40]⟩ ++ ⟨(exprN l (i - 1)).toArray⟩ ++ ⟨#[41]⟩
        else if q = 2 then ⟨#[78, 79, 84, 32, 40]⟩ ++ ⟨(exprN l (i - 1)).toArray⟩ ++ ⟨#[41]⟩
        else if q = 3 then ⟨#[45, 32, 40]⟩ ++ ⟨(exprN l (i - 1)).toArray⟩ ++ ⟨#[41]⟩
        else if q = 4 then ⟨#[40]⟩ ++ ⟨(exprN l (i - 1)).toArray⟩ ++ ⟨#[41, 32, 73, 83, 32, 78, 85, 76, 76]⟩
        else if q = 5 then ⟨#[40]⟩ ++ ⟨(exprN l (i - 1)).toArray⟩ ++ ⟨#[41, 32, 105, 115, 32, 110, 111, 116, 32, 110, 117, 108, 108]⟩
        else ⟨#[40]⟩ ++ ⟨(exprN l (i - 1)).toArray⟩ ++ ⟨#[41]⟩ ++ ⟨(opS m4).toArray⟩ ++ ⟨(atomP p).toArray⟩ := by
      rw [hnx]
      have e1 : (⟨#[40]⟩ : ByteArray) = ⟨([40] : Bs).toArray⟩ := rfl
      have e2 : (⟨#[41]⟩ : ByteArray) = ⟨([41] : Bs).toArray⟩ := rfl
      have e3 : (⟨#[78, 79, 84, 32, 40]⟩ : ByteArray) = ⟨([78, 79, 84, 32, 40] : Bs).toArray⟩ := rfl
      have e4 : (⟨#[45, 32, 40]⟩ : ByteArray) = ⟨([45, 32, 40] : Bs).toArray⟩ := rfl
      have e5 : (⟨#[41, 32, 73, 83, 32, 78, 85, 76, 76]⟩ : ByteArray) = ⟨([41, 32, 73, 83, 32, 78, 85, 76, 76] : Bs).toArray⟩ := rfl
      have e6 : (⟨#[41, 32, 105, 115, 32, 110, 111, 116, 32, 110, 117, 108, 108]⟩ : ByteArray) = ⟨([41, 32, 105, 115, 32, 110, 111, 116, 32, 110, 117, 108, 108] : Bs).toArray⟩ := rfl
      rw [e1, e2, e3, e4, e5, e6]
      simp only [cat2]
      unfold brk
      split
      · simp
      split
      · simp
      split
      · simp
      split
      · simp
      split
      · simp
      split
      · simp
      · simp
    have HC := Lib.hid hcat
    clear hcat hnx hq hm hm4 hops hops4 hAs hav hp hc hsz
    generalize (⟨(exprN l (i - 1)).toArray⟩ : ByteArray) = S at *
    generalize (⟨(atomP p).toArray⟩ : ByteArray) = T at *
    generalize (⟨(opS m).toArray⟩ : ByteArray) = O at *
    generalize (⟨(opS m4).toArray⟩ : ByteArray) = O4 at *
    generalize p.kind = kd at *
    generalize p.n = n at *
    go_upto_region 6 with fail
    have c1a := ((Mods.refl [] wr).alloc (.cells #[.string ⟨#[32, 43, 32]⟩, .string ⟨#[32, 45, 32]⟩, .string ⟨#[32, 42, 32]⟩, .string ⟨#[32, 47, 32]⟩, .string ⟨#[32, 61, 32]⟩, .string ⟨#[32, 60, 32]⟩, .string ⟨#[32, 65, 78, 68, 32]⟩, .string ⟨#[32, 79, 82, 32]⟩, .string ⟨#[32, 60, 62, 32]⟩, .string ⟨#[32, 62, 61, 32]⟩, .string ⟨#[32, 60, 61, 32]⟩, .string ⟨#[32, 62, 32]⟩] 9)).cell (hMr.cell c1 (by simp)) (by simp)
    have c2a := ((Mods.refl [] wr).alloc (.cells #[.string ⟨#[32, 43, 32]⟩, .string ⟨#[32, 45, 32]⟩, .string ⟨#[32, 42, 32]⟩, .string ⟨#[32, 47, 32]⟩, .string ⟨#[32, 61, 32]⟩, .string ⟨#[32, 60, 32]⟩, .string ⟨#[32, 65, 78, 68, 32]⟩, .string ⟨#[32, 79, 82, 32]⟩, .string ⟨#[32, 60, 62, 32]⟩, .string ⟨#[32, 62, 61, 32]⟩, .string ⟨#[32, 60, 61, 32]⟩, .string ⟨#[32, 62, 32]⟩] 9)).cell (hMr.cell c2 (by simp)) (by simp)
    generalize wr.alloc (.cells #[.string ⟨#[32, 43, 32]⟩, .string ⟨#[32, 45, 32]⟩, .string ⟨#[32, 42, 32]⟩, .string ⟨#[32, 47, 32]⟩, .string ⟨#[32, 61, 32]⟩, .string ⟨#[32, 60, 32]⟩, .string ⟨#[32, 65, 78, 68, 32]⟩, .string ⟨#[32, 79, 82, 32]⟩, .string ⟨#[32, 60, 62, 32]⟩, .string ⟨#[32, 62, 61, 32]⟩, .string ⟨#[32, 60, 61, 32]⟩, .string ⟨#[32, 62, 32]⟩] 9) = wa at *
    generalize wr.heap.size = g at *
    go_wp2_with fail
    (with_reducible refine hca.mono ?_)
    rintro e w2 ⟨rfl, hM2⟩
    have d1 := hM2.cell c1a (by simp)
    have d2 := hM2.cell c2a (by simp)
    have x1 := hM2.cell o1 (by simp)
    have x2 := hM2.cell o2 (by simp)
    have hMw := hMa.trans hM2 (by simp)
    clear hca c1 c2 c1a c2a o1 o2 hMa hM2 hMr hM1
    rcases hq7 with rfl | rfl | rfl | rfl | rfl | rfl | ⟨q0, q1, q2, q3, q4, q5⟩
    · have hC := HC.out
      rw [if_pos rfl] at hC
      change (kd : Int) % 8 = 0 at hqz
      have HD := Lib.hid hC.symm
      clear hC HC
      have n1 : ¬ 9223372036854775807 < 1 + S.size := by omega
      have n2 : ¬ 9223372036854775807 < 1 + S.size + 1 := by omega
      have n3 : ¬ 9223372036854775807 < 1 + S.size + 1 + O.size := by omega
      have n4 : ¬ 9223372036854775807 < 1 + S.size + 1 + O.size + T.size := by omega
      go_wp2_with fail
      go_roundg (12 - (i + 1))
      case measure => omega
      case rel => exact ⟨i + 1, by omega, by omega, by go_num, by rw [HD.out, Nat.add_sub_cancel], hMw⟩
    · have hC := HC.out
      rw [if_neg (by decide), if_pos rfl] at hC
      change (kd : Int) % 8 = 1 at hqz
      have HD := Lib.hid hC.symm
      clear hC HC
      have n1 : ¬ 9223372036854775807 < T.size + O.size := by omega
      have n2 : ¬ 9223372036854775807 < T.size + O.size + 1 := by omega
      have n3 : ¬ 9223372036854775807 < T.size + O.size + 1 + S.size := by omega
      have n4 : ¬ 9223372036854775807 < T.size + O.size + 1 + S.size + 1 := by omega
      go_wp2_with fail
      go_roundg (12 - (i + 1))
      case measure => omega
      case rel => exact ⟨i + 1, by omega, by omega, by go_num, by rw [HD.out, Nat.add_sub_cancel], hMw⟩
    · have hC := HC.out
      rw [if_neg (by decide), if_neg (by decide), if_pos rfl] at hC
      change (kd : Int) % 8 = 2 at hqz
      have HD := Lib.hid hC.symm
      clear hC HC
      have n1 : ¬ 9223372036854775807 < 5 + S.size := by omega
      have n2 : ¬ 9223372036854775807 < 5 + S.size + 1 := by omega
      go_wp2_with fail
      go_roundg (12 - (i + 1))
      case measure => omega
      case rel => exact ⟨i + 1, by omega, by omega, by go_num, by rw [HD.out, Nat.add_sub_cancel], hMw⟩
    · have hC := HC.out
      rw [if_neg (by decide), if_neg (by decide), if_neg (by decide), if_pos rfl] at hC
      change (kd : Int) % 8 = 3 at hqz
      have HD := Lib.hid hC.symm
      clear hC HC
      have n1 : ¬ 9223372036854775807 < 3 + S.size := by omega
      have n2 : ¬ 9223372036854775807 < 3 + S.size + 1 := by omega
      go_wp2_with fail
      go_roundg (12 - (i + 1))
      case measure => omega
      case rel => exact ⟨i + 1, by omega, by omega, by go_num, by rw [HD.out, Nat.add_sub_cancel], hMw⟩
    · have hC := HC.out
      rw [if_neg (by decide), if_neg (by decide), if_neg (by decide), if_neg (by decide), if_pos rfl] at hC
      change (kd : Int) % 8 = 4 at hqz
      have HD := Lib.hid hC.symm
      clear hC HC
      have n1 : ¬ 9223372036854775807 < 1 + S.size := by omega
      have n2 : ¬ 9223372036854775807 < 1 + S.size + 9 := by omega
      go_wp2_with fail
      go_roundg (12 - (i + 1))
      case measure => omega
      case rel => exact ⟨i + 1, by omega, by omega, by go_num, by rw [HD.out, Nat.add_sub_cancel], hMw⟩
    · have hC := HC.out
      rw [if_neg (by decide), if_neg (by decide), if_neg (by decide), if_neg (by decide), if_neg (by decide), if_pos rfl] at hC
      change (kd : Int) % 8 = 5 at hqz
      have HD := Lib.hid hC.symm
      clear hC HC
      have n1 : ¬ 9223372036854775807 < 1 + S.size := by omega
      have n2 : ¬ 9223372036854775807 < 1 + S.size + 13 := by omega
      go_wp2_with fail
      go_roundg (12 - (i + 1))
      case measure => omega
      case rel => exact ⟨i + 1, by omega, by omega, by go_num, by rw [HD.out, Nat.add_sub_cancel], hMw⟩
    · have hC := HC.out
      rw [if_neg q0, if_neg q1, if_neg q2, if_neg q3, if_neg q4, if_neg q5] at hC
      have z0 : ((q : Int) == 0) = false := beq_eq_false_iff_ne.2 (by omega)
      have z1 : ((q : Int) == 1) = false := beq_eq_false_iff_ne.2 (by omega)
      have z2 : ((q : Int) == 2) = false := beq_eq_false_iff_ne.2 (by omega)
      have z3 : ((q : Int) == 3) = false := beq_eq_false_iff_ne.2 (by omega)
      have z4 : ((q : Int) == 4) = false := beq_eq_false_iff_ne.2 (by omega)
      have z5 : ((q : Int) == 5) = false := beq_eq_false_iff_ne.2 (by omega)
      clear q0 q1 q2 q3 q4 q5
      have HD := Lib.hid hC.symm
      clear hC HC
      have n1 : ¬ 9223372036854775807 < 1 + S.size := by omega
      have n2 : ¬ 9223372036854775807 < 1 + S.size + 1 := by omega
      have n3 : ¬ 9223372036854775807 < 1 + S.size + 1 + O4.size := by omega
      have n4 : ¬ 9223372036854775807 < 1 + S.size + 1 + O4.size + T.size := by omega
      go_wp2_with fail
      go_roundg (12 - (i + 1))
      case measure => omega
      case rel => exact ⟨i + 1, by omega, by omega, by go_num, by rw [HD.out, Nat.add_sub_cancel], hMw⟩
  · have hend : exprN l (i - 1) = exprV l := by
      by_cases h12 : i = 12
      · rw [h12]; rfl
      · exact (exprN_stop (j := i - 1) (by rw [HLEN.out]; omega) 11 (by omega)).symm
    rw [hend]
    have hcase : (i : Int) < (len : Int) ∧ ¬ (i : Int) < 12 ∨ ¬ (i : Int) < (len : Int) := by omega
    clear hend hlt hsz
    rcases hcase with ⟨z1, z2⟩ | z1
    · go_wp2_with fail
      go_ret
      exact ⟨rfl, hMr⟩
    · go_wp2_with fail
      go_ret
      exact ⟨rfl, hMr⟩
end Go.Proofs.YtpokbepenacnpaaGreatDoor
