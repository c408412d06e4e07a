/-
  No cell of these rows narrows 'for every input' (looked for: loops, veiled, ifaces, maps, wideKeys, modest, calm, conditions, laid).
  DERIVED. THE GIVEN ROWS OF THIS SEAT. 6 by the template 'for every input the law returns true; each argument reads behind the call as it read before'; 0 by the template 'total and deterministic' (their statements: YtjhfabimacljhaaTotals.lean).
  GIVEN WITH THE SEED: the statements are not yours to turn. If you find one false, say at which input.
  Laid BY PROGRAM, IN A SANDBOX (cutbox-rows.mjs): the forced cells as the released guide's own fill.sh prints them over the translation 3463bf1cec7f50ee… (all of the seat's roots in one cut). By AI agents, Wed Nov 11 2026. No macro, syntax, notation, axiom, sorry.
-/
import Derived.Test.YtjhfabimacljhaaChecked
import GoSem.Claim
import GoSem.ClaimJoined
import GoSem.ClaimMapViews
import Derived.JoinedTies
import Derived.KernelRfl
namespace Go.Proofs.Ytjhfabimacljhaa
/- THE CELL 'sum', in the pinned program and in every row, IS THE sha256 OF THE DUMP (.gsa) THAT YtjhfabimacljhaaProg.lean LOADS. Nothing in Lean hashes anything: it is a label: what it is worth is what the hold of that sum in a sandbox is worth. -/
noncomputable def Try.pinned : Pinned := { name := "ytjhfabimacljhaa", sum := "3463bf1cec7f50ee3a845bb8219d4c4e084708740e5e214e233eb9f98d1db31a", checked := Try.checked }
namespace Rows
def none {H : Type} : Left H := { results := [], args := [] }

/-- 'laws.FnExactPairNew': WHATEVER THE INPUT: true; the input reads as it did. -/
def fnExactPairNewSpec : ChangeSpec := { name := "fnExactPairNew", fn := fun _ => fun
  | [] => { results := [.lit (.bool true)], args := [] }
  | _ => none }
def fnExactPairNewRow : OpenClaim := { program := "ytjhfabimacljhaa", sum := "3463bf1cec7f50ee3a845bb8219d4c4e084708740e5e214e233eb9f98d1db31a", func := "loop.example/g00324/laws.FnExactPairNew", spec := "fnExactPairNew", apart := false }
def FnExactPairNewSaid : Prop := fnExactPairNewRow.holds Try.pinned (OpenSpec.ofChange fnExactPairNewSpec)

/-- ITS FALSE NEIGHBOUR: 'it returns false'. Refute it at one input. -/
def fnExactPairNewWrong : ChangeSpec := { name := "fnExactPairNew", fn := fun _ => fun
  | [] => { results := [.lit (.bool false)], args := [] }
  | _ => none }
def FnExactPairNewWrongFalsely : Prop := fnExactPairNewRow.holds Try.pinned (OpenSpec.ofChange fnExactPairNewWrong)

/-- 'laws.FnExactRiseServer': WHATEVER THE INPUT: true; the input reads as it did. -/
def fnExactRiseServerSpec : ChangeSpec := { name := "fnExactRiseServer", fn := fun _ => fun
  | [d] => { results := [.lit (.bool true)], args := [d] }
  | _ => none }
def fnExactRiseServerRow : OpenClaim := { program := "ytjhfabimacljhaa", sum := "3463bf1cec7f50ee3a845bb8219d4c4e084708740e5e214e233eb9f98d1db31a", func := "loop.example/g00324/laws.FnExactRiseServer", spec := "fnExactRiseServer", apart := false }
def FnExactRiseServerSaid : Prop := fnExactRiseServerRow.holds Try.pinned (OpenSpec.ofChange fnExactRiseServerSpec)

/-- ITS FALSE NEIGHBOUR: 'it returns false'. Refute it at one input. -/
def fnExactRiseServerWrong : ChangeSpec := { name := "fnExactRiseServer", fn := fun _ => fun
  | [d] => { results := [.lit (.bool false)], args := [d] }
  | _ => none }
def FnExactRiseServerWrongFalsely : Prop := fnExactRiseServerRow.holds Try.pinned (OpenSpec.ofChange fnExactRiseServerWrong)

/-- 'laws.FnExactWorldNew': WHATEVER THE INPUT: true; the input reads as it did. -/
def fnExactWorldNewSpec : ChangeSpec := { name := "fnExactWorldNew", fn := fun _ => fun
  | [] => { results := [.lit (.bool true)], args := [] }
  | _ => none }
def fnExactWorldNewRow : OpenClaim := { program := "ytjhfabimacljhaa", sum := "3463bf1cec7f50ee3a845bb8219d4c4e084708740e5e214e233eb9f98d1db31a", func := "loop.example/g00324/laws.FnExactWorldNew", spec := "fnExactWorldNew", apart := false }
def FnExactWorldNewSaid : Prop := fnExactWorldNewRow.holds Try.pinned (OpenSpec.ofChange fnExactWorldNewSpec)

/-- ITS FALSE NEIGHBOUR: 'it returns false'. Refute it at one input. -/
def fnExactWorldNewWrong : ChangeSpec := { name := "fnExactWorldNew", fn := fun _ => fun
  | [] => { results := [.lit (.bool false)], args := [] }
  | _ => none }
def FnExactWorldNewWrongFalsely : Prop := fnExactWorldNewRow.holds Try.pinned (OpenSpec.ofChange fnExactWorldNewWrong)

/-- 'laws.FnExactFeedServer': WHATEVER THE INPUT: true; the input reads as it did. -/
def fnExactFeedServerSpec : ChangeSpec := { name := "fnExactFeedServer", fn := fun _ => fun
  | [d1, d2] => { results := [.lit (.bool true)], args := [d1, d2] }
  | _ => none }
def fnExactFeedServerRow : OpenClaim := { program := "ytjhfabimacljhaa", sum := "3463bf1cec7f50ee3a845bb8219d4c4e084708740e5e214e233eb9f98d1db31a", func := "loop.example/g00324/laws.FnExactFeedServer", spec := "fnExactFeedServer", apart := false }
def FnExactFeedServerSaid : Prop := fnExactFeedServerRow.holds Try.pinned (OpenSpec.ofChange fnExactFeedServerSpec)

/-- ITS FALSE NEIGHBOUR: 'it returns false'. Refute it at one input. -/
def fnExactFeedServerWrong : ChangeSpec := { name := "fnExactFeedServer", fn := fun _ => fun
  | [d1, d2] => { results := [.lit (.bool false)], args := [d1, d2] }
  | _ => none }
def FnExactFeedServerWrongFalsely : Prop := fnExactFeedServerRow.holds Try.pinned (OpenSpec.ofChange fnExactFeedServerWrong)

/-- 'laws.FnExactAgree': WHATEVER THE INPUT: true; the input reads as it did. -/
def fnExactAgreeSpec : ChangeSpec := { name := "fnExactAgree", fn := fun _ => fun
  | [d] => { results := [.lit (.bool true)], args := [d] }
  | _ => none }
def fnExactAgreeRow : OpenClaim := { program := "ytjhfabimacljhaa", sum := "3463bf1cec7f50ee3a845bb8219d4c4e084708740e5e214e233eb9f98d1db31a", func := "loop.example/g00324/laws.FnExactAgree", spec := "fnExactAgree", unfollowed := true, recurses := true, apart := false }
def FnExactAgreeSaid : Prop := fnExactAgreeRow.holds Try.pinned (OpenSpec.ofChange fnExactAgreeSpec)

/-- ITS FALSE NEIGHBOUR: 'it returns false'. Refute it at one input. -/
def fnExactAgreeWrong : ChangeSpec := { name := "fnExactAgree", fn := fun _ => fun
  | [d] => { results := [.lit (.bool false)], args := [d] }
  | _ => none }
def FnExactAgreeWrongFalsely : Prop := fnExactAgreeRow.holds Try.pinned (OpenSpec.ofChange fnExactAgreeWrong)

/-- 'laws.FnExactShowPair': WHATEVER THE INPUT: true; the input reads as it did. -/
def fnExactShowPairSpec : ChangeSpec := { name := "fnExactShowPair", fn := fun _ => fun
  | [d] => { results := [.lit (.bool true)], args := [d] }
  | _ => none }
def fnExactShowPairRow : OpenClaim := { program := "ytjhfabimacljhaa", sum := "3463bf1cec7f50ee3a845bb8219d4c4e084708740e5e214e233eb9f98d1db31a", func := "loop.example/g00324/laws.FnExactShowPair", spec := "fnExactShowPair", unfollowed := true, recurses := true, apart := false }
def FnExactShowPairSaid : Prop := fnExactShowPairRow.holds Try.pinned (OpenSpec.ofChange fnExactShowPairSpec)

/-- ITS FALSE NEIGHBOUR: 'it returns false'. Refute it at one input. -/
def fnExactShowPairWrong : ChangeSpec := { name := "fnExactShowPair", fn := fun _ => fun
  | [d] => { results := [.lit (.bool false)], args := [d] }
  | _ => none }
def FnExactShowPairWrongFalsely : Prop := fnExactShowPairRow.holds Try.pinned (OpenSpec.ofChange fnExactShowPairWrong)

/- THE SECOND FORM. 'bulk': how many values and letters a reading holds, each counted each time it is reached (what is shared counts as often as it is met; a slice's spare places count too). A statement '..UptoSaid' is the law's where the arguments, and the package variables that the reading takes, are together of bulk at most 1048576: NARROWER than '..Said'. Prove '..Said' where nothing that the law and all that it calls make is longer than what came in: it says more and counts as full. Else prove '..UptoSaid'. A law counts once. -/
mutual
def uptoBulk {H : Type} : DataW H → Nat
  | .lit (.string bytes) => bytes.length + 1
  | .lit _ => 1
  | .nil => 1
  | .ptr d => uptoBulk d + 1
  | .slice elems spare => uptoBulkAll elems + uptoBulkAll spare + 1
  | .agg parts => uptoBulkAll parts + 1
  | .iface _ d => uptoBulk d + 1
  | .map entries => uptoBulkEntries entries + 1
  | .held _ => 1
def uptoBulkAll {H : Type} : List (DataW H) → Nat
  | [] => 0
  | d :: r => uptoBulk d + uptoBulkAll r
def uptoBulkEntries {H : Type} : List (Lit × DataW H) → Nat
  | [] => 0
  | x :: r => uptoBulkEntry x + uptoBulkEntries r
def uptoBulkEntry {H : Type} : Lit × DataW H → Nat
  | (.string bytes, d) => bytes.length + uptoBulk d + 1
  | (_, d) => uptoBulk d + 1
 end
def uptoSmall : (H : Type) → List (DataW H) → Bool := fun _ ds => decide (uptoBulkAll ds ≤ 1048576)
def OpenSpec.upto (s : _root_.Go.ChangeSpec) : _root_.Go.OpenSpec := { _root_.Go.OpenSpec.ofChange s with cond := some uptoSmall }

/-- 'laws.FnExactPairNew', WHERE WHAT IT READS IS OF BULK AT MOST 1048576: true; the input reads as it did. -/
def fnExactPairNewUptoRow : OpenClaim := { program := "ytjhfabimacljhaa", sum := "3463bf1cec7f50ee3a845bb8219d4c4e084708740e5e214e233eb9f98d1db31a", func := "loop.example/g00324/laws.FnExactPairNew", spec := "fnExactPairNew", apart := false, narrowed := true }
def FnExactPairNewUptoSaid : Prop := fnExactPairNewUptoRow.holds Try.pinned (OpenSpec.upto fnExactPairNewSpec)

/-- 'laws.FnExactRiseServer', WHERE WHAT IT READS IS OF BULK AT MOST 1048576: true; the input reads as it did. -/
def fnExactRiseServerUptoRow : OpenClaim := { program := "ytjhfabimacljhaa", sum := "3463bf1cec7f50ee3a845bb8219d4c4e084708740e5e214e233eb9f98d1db31a", func := "loop.example/g00324/laws.FnExactRiseServer", spec := "fnExactRiseServer", apart := false, narrowed := true }
def FnExactRiseServerUptoSaid : Prop := fnExactRiseServerUptoRow.holds Try.pinned (OpenSpec.upto fnExactRiseServerSpec)

/-- 'laws.FnExactWorldNew', WHERE WHAT IT READS IS OF BULK AT MOST 1048576: true; the input reads as it did. -/
def fnExactWorldNewUptoRow : OpenClaim := { program := "ytjhfabimacljhaa", sum := "3463bf1cec7f50ee3a845bb8219d4c4e084708740e5e214e233eb9f98d1db31a", func := "loop.example/g00324/laws.FnExactWorldNew", spec := "fnExactWorldNew", apart := false, narrowed := true }
def FnExactWorldNewUptoSaid : Prop := fnExactWorldNewUptoRow.holds Try.pinned (OpenSpec.upto fnExactWorldNewSpec)

/-- 'laws.FnExactFeedServer', WHERE WHAT IT READS IS OF BULK AT MOST 1048576: true; the input reads as it did. -/
def fnExactFeedServerUptoRow : OpenClaim := { program := "ytjhfabimacljhaa", sum := "3463bf1cec7f50ee3a845bb8219d4c4e084708740e5e214e233eb9f98d1db31a", func := "loop.example/g00324/laws.FnExactFeedServer", spec := "fnExactFeedServer", apart := false, narrowed := true }
def FnExactFeedServerUptoSaid : Prop := fnExactFeedServerUptoRow.holds Try.pinned (OpenSpec.upto fnExactFeedServerSpec)

/-- 'laws.FnExactAgree', WHERE WHAT IT READS IS OF BULK AT MOST 1048576: true; the input reads as it did. -/
def fnExactAgreeUptoRow : OpenClaim := { program := "ytjhfabimacljhaa", sum := "3463bf1cec7f50ee3a845bb8219d4c4e084708740e5e214e233eb9f98d1db31a", func := "loop.example/g00324/laws.FnExactAgree", spec := "fnExactAgree", unfollowed := true, recurses := true, apart := false, narrowed := true }
def FnExactAgreeUptoSaid : Prop := fnExactAgreeUptoRow.holds Try.pinned (OpenSpec.upto fnExactAgreeSpec)

/-- 'laws.FnExactShowPair', WHERE WHAT IT READS IS OF BULK AT MOST 1048576: true; the input reads as it did. -/
def fnExactShowPairUptoRow : OpenClaim := { program := "ytjhfabimacljhaa", sum := "3463bf1cec7f50ee3a845bb8219d4c4e084708740e5e214e233eb9f98d1db31a", func := "loop.example/g00324/laws.FnExactShowPair", spec := "fnExactShowPair", unfollowed := true, recurses := true, apart := false, narrowed := true }
def FnExactShowPairUptoSaid : Prop := fnExactShowPairUptoRow.holds Try.pinned (OpenSpec.upto fnExactShowPairSpec)

end Rows
end Go.Proofs.Ytjhfabimacljhaa
