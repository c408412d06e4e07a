/- The data of the program, as plain Lean data, and how it lies in cells. -/
import Derived.Test.YtjhfabimacljhaaKt
import Derived.Test.YtjhfabimacljhaaKv
namespace Go.Proofs.Ytjhfabimacljhaa.K
open Go Go.RowKit
set_option linter.unusedVariables false
set_option linter.unusedSimpArgs false
abbrev Str := List UInt8
abbrev cS (s : Str) : List V := [.str s]
theorem bsimp : (∀ (p : Prop) [Decidable p], (decide p = true) = p) ∧ (∀ (p : Prop) [Decidable p], (decide p = false) = ¬ p) ∧ (∀ b : Bool, ((!b) = true) = (b = false)) ∧ (∀ b : Bool, ((!b) = false) = (b = true)) :=
  ⟨fun p => by simp, fun p => by simp, fun b => by simp, fun b => by simp⟩
theorem travLL_map {α : Type} {f0 : Nat → V} {fs : Nat → Nat → Nat → List (List V) → V} {fp : Nat → Nat → Nat → List V → V} {f : α → List V} (hf : ∀ x, V.travL f0 fs fp (f x) = f x) (xs : List α) : V.travLL f0 fs fp (xs.map f) = xs.map f := by
  rw [travLL_eq, List.map_map]
  exact List.map_congr_left fun x _ => hf x
theorem klen : (∀ (α β : Type) (f : α → β) (l : List α), (l.map f).length = l.length) ∧ (∀ (n : Nat), 0 + n = n) ∧ (∀ (α : Type), (@List.nil α).length = 0) ∧ (1 + 1 = 2) ∧ (1 + 2 = 3) ∧ (2 + 1 = 3) ∧ (3 + 1 = 4) ∧ (4 + 1 = 5) ∧ (5 + 1 = 6) ∧ (6 + 1 = 7) ∧ (7 + 1 = 8) ∧ (8 + 1 = 9) :=
  ⟨fun _ _ f l => List.length_map f, Nat.zero_add, fun _ => rfl, rfl, rfl, rfl, rfl, rfl, rfl, rfl, rfl, rfl⟩
theorem wrap_succ {i : Nat} (h : i < 9223372036854775807) : IntKind.i64.wrap ((i : Int) + 1) = ((i + 1 : Nat) : Int) := by rw [IntKind.wrap_i64]; omega
def szLoop : List Str → Int → Int
  | [], left => left
  | s :: r, left => if IntKind.i64.wrap (left - s.length) < 0 then -1 else szLoop r (IntKind.i64.wrap (left - s.length))
def szStrs (a : List Str) (left : Int) : Int := if IntKind.i64.wrap (left - a.length) < 0 then -1 else szLoop a (IntKind.i64.wrap (left - a.length))
structure Link where
  epoch : Int
  way : List Str
  next : Int
  want : Int
  deriving DecidableEq
abbrev cLink (l : Link) : List V := [.int .i64 l.epoch, .sl 0 1 0 (l.way.map cS), .int .i64 l.next, .int .i64 l.want]
structure Sync where
  epoch : Int
  link : Link
  total : Int
  pieces : List Str
  done : Bool
  failed : Bool
  deriving DecidableEq
abbrev cSync (y : Sync) : List V := [.int .i64 y.epoch, .int .i64 y.link.epoch, .sl 0 1 0 (y.link.way.map cS), .int .i64 y.link.next, .int .i64 y.link.want, .int .i64 y.total, .sl 0 1 0 (y.pieces.map cS), .bool y.done, .bool y.failed]
abbrev StrsOk (a : List Str) : Prop := a.length ≤ 1048576
def szLink (l : Link) (left : Int) : Int := if szStrs l.way left < 0 then -1 else szStrs l.way left
def szSync (y : Sync) (left : Int) : Int := if szLink y.link left < 0 then -1 else if szStrs y.pieces (szLink y.link left) < 0 then -1 else szStrs y.pieces (szLink y.link left)
def syncOver (y : Sync) : Bool := y.done && decide ((y.link.way.length : Int) = 0)
theorem take_next {α : Type} {a b : List α} {i : Nat} (h : a.take i = b.take i) (hi : i < a.length) (hj : i < b.length) (he : a[i] = b[i]) : a.take (i + 1) = b.take (i + 1) := by
  rw [List.take_add_one, List.take_add_one, h, List.getElem?_eq_getElem hi, List.getElem?_eq_getElem hj, he]
theorem eq_of_take {α : Type} {a b : List α} {i : Nat} (hl : a.length = b.length) (hi : a.length ≤ i) (h : a.take i = b.take i) : a = b := by
  rwa [List.take_of_length_le hi, List.take_of_length_le (by omega)] at h
structure Packet where
  epoch : Int
  seq : Int
  ack : Int
  text : Str
  deriving DecidableEq
abbrev cPacket (p : Packet) : List V := [.int .i64 p.epoch, .int .i64 p.seq, .int .i64 p.ack, .str p.text]
def linkSays (l : Link) : Packet := match l.way with
  | [] => ⟨l.epoch, 0, l.want, []⟩
  | s :: _ => ⟨l.epoch, l.next, l.want, s⟩
end Go.Proofs.Ytjhfabimacljhaa.K
