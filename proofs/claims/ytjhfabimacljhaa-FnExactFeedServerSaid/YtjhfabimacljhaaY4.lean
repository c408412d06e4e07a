/- Links put, syncs ended, marks: plain functions. -/
import Derived.Test.YtjhfabimacljhaaY1
import Derived.Test.YtjhfabimacljhaaKy
namespace Go.Proofs.Ytjhfabimacljhaa.K
open Go Go.RowKit
set_option linter.unusedVariables false
set_option linter.unusedSimpArgs false
def linkFull (l : Link) (t : Str) : Bool := decide ((l.way.length : Int) ≥ 60) || !inR (t.length : Int) 1 400
def linkPut (l : Link) (t : Str) : Link × Bool := if linkFull l t = true then (l, false) else ({ l with way := l.way ++ [t] }, true)
abbrev vLB (r : Link × Bool) : V := .tup [.agg (cLink r.1), .bool r.2]
def syncEnds (y : Sync) (b : Bool) : Sync := if b = true then { y with done := true } else { y with failed := true }
/-- The text of a mark. -/
def decGo (m : Nat) (acc : Str) : Str := if h : 0 < m then decGo (m / 10) (UInt8.ofNat (48 + m % 10) :: acc) else acc
termination_by m
decreasing_by omega
theorem decGo_pos {m : Nat} {acc : Str} (h : 0 < m) : decGo m acc = decGo (m / 10) (UInt8.ofNat (48 + m % 10) :: acc) := by rw [decGo, dif_pos h]
theorem decGo_zero {m : Nat} {acc : Str} (h : ¬ 0 < m) : decGo m acc = acc := by rw [decGo, dif_neg h]
def markT (k : Nat) : Str := if k = 0 then [109, 48] else 109 :: decGo k []
theorem digit_byte {m : Nat} : IntKind.u8.wrap (IntKind.i64.wrap (48 + ((m : Int)).tmod 10)) = (((UInt8.ofNat (48 + m % 10)).toNat : Nat) : Int) := by
  rw [Int.tmod_eq_emod_of_nonneg (by omega), show (48 : Int) + (m : Int) % 10 = ((48 + m % 10 : Nat) : Int) by omega, wrap_nat (by omega), wrap_u8_nat]
theorem quo10 {n : Nat} (h : n ≤ 9223372036854775807) : IntKind.i64.wrap (((n : Int)).tdiv 10) = ((n / 10 : Nat) : Int) := by
  rw [Int.tdiv_eq_ediv_of_nonneg (by omega), IntKind.wrap_i64]; omega
def marks (k n : Nat) : List Str := (List.range' k n).map markT
theorem set_app {α : Type} {a b : List α} {i : Nat} {y : α} (h : a.length = i) (hb : b ≠ []) : (a ++ b).set i y = a ++ y :: b.drop 1 := by
  subst h
  rw [List.set_append_right _ _ (Nat.le_refl _), Nat.sub_self]
  cases b with
  | nil => exact absurd rfl hb
  | cons x b => rfl
end Go.Proofs.Ytjhfabimacljhaa.K
