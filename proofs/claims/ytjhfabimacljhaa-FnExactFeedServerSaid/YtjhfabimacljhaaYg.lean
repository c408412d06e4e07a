/- What a server and a pair show: plain functions. -/
import Derived.Test.YtjhfabimacljhaaY20
namespace Go.Proofs.Ytjhfabimacljhaa.K
open Go Go.RowKit
set_option linter.unusedVariables false
set_option linter.unusedSimpArgs false
section
variable {P : Program} {ti : Tab} {ops : Array Oper} {o : Oper} {l : List Oper} {t t' h h' : List V} {n n' : Nat} {Q : Exit → List V → List V → Nat → Prop}
theorem TOps.append {T e : TypeId} {i : TInfo} {s x : Operand} {L off : Nat} {es es2 es3 : List (List V)} {s1 b1 : Nat} {z1 : List V} (hti : TabOk P ti) (hg : o.guard = none) (ho : o.op = .call ⟨.builtin .append, #[s, x], #[T, T]⟩) (hT : ti T = some ⟨.slice e, s1, b1, z1⟩) (he : ti e = some i)
    (hi : 0 < i.size) (hz : i.zero.length = i.size) (hs : opnd t s = .sl L i.size off es) (hx : (∃ L2 off2, opnd t x = .sl L2 i.size off2 es2) ∨ (es2 = [] ∧ ∃ q, opnd t x = .nil q)) (hL : L ≠ 0) (hLn : L < n)
    (hb : (es.length + es2.length) * i.bytes ≤ 140737488355328) (hb2 : es.length + es2.length ≤ 9223372036854775807) (hone : ∀ e ∈ es2, ∀ y ∈ e, V.one y = true) (he3 : V.killLL L (es ++ es2) = es3) (ht : putV (V.killL L t) o.dst (.sl L i.size 0 es3) = t') (hh : V.killL L h = h')
    (hk : TOps P ops [] Q l t' h' n) : TOps P ops [] Q (o :: l) t h n :=
  TOps.ok h' hg (ht ▸ hh ▸ he3 ▸ ok_append hti hT he hi hz ho hs hx hL hLn hb hb2 hone) hk
end
def fig (d : Nat) : UInt8 := if d < 10 then UInt8.ofNat (48 + d) else UInt8.ofNat (87 + d)
abbrev figT : Str := [48,49,50,51,52,53,54,55,56,57,97,98,99,100,101,102]
def dg (v : Int) : Nat := (v.tmod 10).natAbs
theorem wrap_abs (x : Int) : (IntKind.i64.wrap x).natAbs ≤ x.natAbs := by rw [IntKind.wrap_i64]; omega
theorem quo_abs (v : Int) : (IntKind.i64.wrap (v.tdiv 10)).natAbs ≤ v.natAbs / 10 := by
  have h := wrap_abs (v.tdiv 10)
  rw [Int.natAbs_tdiv] at h
  exact h
def decV (v : Int) (acc : Str) : Str := if h : v = 0 then acc else decV (IntKind.i64.wrap (v.tdiv 10)) (fig (dg v) :: acc)
termination_by v.natAbs
decreasing_by have := quo_abs v; omega
def decimal (v : Int) : Str := if v = 0 then [48] else if v < 0 then 45 :: decV v [] else decV v []
def numS (v : Int) : Str := decimal (if v > 0 then v else 0)
def hexC (c : UInt8) : Str := [fig (c.toNat / 16), fig (c.toNat % 16)]
def hexL (s : Str) : Str := s.flatMap hexC
def hexS (s : Str) : Str := if s.length > 20000 then [] else hexL s
def flB (r : Reg) : Nat := (r.val % 2).toNat
def flN : Nat → List Reg → Nat
  | _, [] => 0
  | i, r :: l => flB r * 2 ^ i + flN (i + 1) l
def mailS (m : Mail) : Str := [32] ++ numS m.uid ++ [32] ++ decimal (flN 0 (m.flags.take 3) : Int) ++ [32] ++ hexS m.text ++ [10]
def boxH (b : Box) : Str := b.name ++ [32] ++ numS b.next ++ [10]
def boxS (b : Box) : Str := boxH b ++ b.mails.flatMap mailS
def saidS (s : Store) : Str := s.boxes.flatMap boxS
def serverS (v : Server) : Str := [115,101,114,118,101,114,32] ++ numS v.kept.store.by_ ++ [32] ++ (if v.up then [117,112] else [100,111,119,110]) ++ [10] ++ saidS v.kept.store
theorem min2 {n : Nat} : (if (n : Int) < 2 then (n : Int) else 2) = ((min 2 n : Nat) : Int) := by split <;> omega
def pairS (p : Pair) (b : Bool) : Str := (p.servers.take 2).flatMap serverS ++ (if b then [97,103,114,101,101,10] else [97,112,97,114,116,10])
end Go.Proofs.Ytjhfabimacljhaa.K
