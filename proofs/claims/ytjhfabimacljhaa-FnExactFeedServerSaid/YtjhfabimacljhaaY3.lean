/- Numbers and texts read: plain functions; and that both readers of packets tell the same. -/
import Derived.Test.YtjhfabimacljhaaY1
namespace Go.Proofs.Ytjhfabimacljhaa.K
open Go Go.RowKit
set_option linter.unusedVariables false
set_option linter.unusedSimpArgs false

/-- A number read from a place on: f groups at most, i groups behind, n so far. -/
def rdV (s : Str) (p : Nat) : Nat → Nat → Nat → Option (Nat × Nat)
  | 0, _, _ => none
  | f + 1, i, n => if h : p + i < s.length then
      (if s[p + i].toNat < 128 then (if n + s[p + i].toNat % 128 * 128 ^ i ≤ 1000000000 ∧ varT (n + s[p + i].toNat % 128 * 128 ^ i) = (s.take (p + i + 1)).drop p then some (n + s[p + i].toNat % 128 * 128 ^ i, p + i + 1) else none)
        else rdV s p f (i + 1) (n + s[p + i].toNat % 128 * 128 ^ i)) else none
def readVar (s : Str) (z : Int) : Option (Nat × Nat) := if inR z 0 s.length = true then rdV s z.toNat 5 0 0 else none
abbrev vR (r : Option (Nat × Nat)) : V := .tup [.int .i64 ((r.getD (0, 0)).1 : Int), .int .i64 ((r.getD (0, 0)).2 : Int), .bool r.isSome]
theorem wrap_add_nat {a b : Nat} (h : a + b ≤ 9223372036854775807) : IntKind.i64.wrap ((a : Int) + (b : Int)) = ((a + b : Nat) : Int) := by rw [IntKind.wrap_i64]; omega
theorem wrap_add_one {a : Nat} (h : a + 1 ≤ 9223372036854775807) : IntKind.i64.wrap ((a : Int) + 1) = ((a + 1 : Nat) : Int) := by rw [IntKind.wrap_i64]; omega
def readShort (s : Str) (z : Int) : Option (Str × Nat) := match readVar s z with
  | some (n, e) => if n ≤ 20000 ∧ n + e ≤ s.length then some ((s.take (e + n)).drop e, e + n) else none
  | none => none
abbrev vS (r : Option (Str × Nat)) : V := .tup [.str (r.getD ([], 0)).1, .int .i64 ((r.getD ([], 0)).2 : Int), .bool r.isSome]
def unsealed (t : Str) : Option Str := if 4 ≤ t.length ∧ t.length ≤ 20004 ∧ t.drop (t.length - 4) = fourT (sumOf (t.take (t.length - 4))) then some (t.take (t.length - 4)) else none
structure Scan where
  text : Str
  pos : Int
  bad : Bool
abbrev cScan (c : Scan) : List V := [.str c.text, .int .i64 c.pos, .bool c.bad]
def scanNum (c : Scan) : Nat × Scan := match readVar c.text c.pos with
  | some (n, e) => if c.bad = true then (0, { c with bad := true }) else (n, { c with pos := (e : Int) })
  | none => (0, { c with bad := true })
def scanShort (c : Scan) : Str × Scan := match readShort c.text c.pos with
  | some (n, e) => if c.bad = true then ([], { c with bad := true }) else (n, { c with pos := (e : Int) })
  | none => ([], { c with bad := true })
/-- What is scanned of a packet's text. -/
def scan1 (b : Str) (bad : Bool) : Nat × Scan := scanNum ⟨b, 0, bad⟩
def scan2 (b : Str) (bad : Bool) : Nat × Scan := scanNum (scan1 b bad).2
def scan3 (b : Str) (bad : Bool) : Nat × Scan := scanNum (scan2 b bad).2
def scan4 (b : Str) (bad : Bool) : Str × Scan := scanShort (scan3 b bad).2
def scanP (b : Str) (bad : Bool) : Packet := ⟨((scan1 b bad).1 : Int), ((scan2 b bad).1 : Int), ((scan3 b bad).1 : Int), (scan4 b bad).1⟩
def readI (t : Str) : Option Packet :=
  if (unsealed t).isSome = true ∧ (scan4 ((unsealed t).getD []) false).2.bad = false ∧ (scan4 ((unsealed t).getD []) false).2.pos = (((unsealed t).getD []).length : Int) ∧ (scan4 ((unsealed t).getD []) false).1.length ≤ 400 then some (scanP ((unsealed t).getD []) false) else none
def readS (t : Str) : Option Packet :=
  if (scan4 ((unsealed t).getD []) (unsealed t).isNone).2.bad = false ∧ packetText (scanP ((unsealed t).getD []) (unsealed t).isNone) = some t then some (scanP ((unsealed t).getD []) (unsealed t).isNone) else none
abbrev vP (r : Option Packet) : V := .tup [.agg (cPacket (r.getD ⟨0, 0, 0, []⟩)), .bool r.isSome]
/-- Four bytes as a number. -/
def fourN (l : Str) : Nat := match l with | a :: b :: c :: d :: _ => a.toNat * 16777216 + b.toNat * 65536 + c.toNat * 256 + d.toNat | _ => 0
end Go.Proofs.Ytjhfabimacljhaa.K
