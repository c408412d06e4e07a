/-
  No cell of these rows narrows 'for every input' (looked for: loops, veiled, ifaces, maps, wideKeys, modest, calm, conditions, laid).
  DERIVED. THE GIVEN ROWS OF THIS SEAT. 12 by the template 'for every input the law returns true; each argument reads behind the call as it read before'; 0 by the template 'total and deterministic' (their statements: YtglodjbknjfmjaaTotals.lean).
  GIVEN WITH THE SEED: the statements are not yours to turn. If you find one false, say at which input.
  Laid BY PROGRAM, IN A SANDBOX (cutbox-rows.mjs): the forced cells as the released guide's own fill.sh prints them over the translation 75f5cc9778b84e31… (all of the seat's roots in one cut). By AI agents, Wed Nov 11 2026. No macro, syntax, notation, axiom, sorry.
-/
import Derived.Test.YtglodjbknjfmjaaChecked
import GoSem.Claim
import GoSem.ClaimJoined
import GoSem.ClaimMapViews
import Derived.JoinedTies
import Derived.KernelRfl
namespace Go.Proofs.Ytglodjbknjfmjaa
/- THE CELL 'sum', in the pinned program and in every row, IS THE sha256 OF THE DUMP (.gsa) THAT YtglodjbknjfmjaaProg.lean LOADS. Nothing in Lean hashes anything: it is a label: what it is worth is what the hold of that sum in a sandbox is worth. -/
noncomputable def Try.pinned : Pinned := { name := "ytglodjbknjfmjaa", sum := "75f5cc9778b84e31c986adf59f9898693a05ab40b88ce723b7d1705177a63b6a", checked := Try.checked }
namespace Rows
def none {H : Type} : Left H := { results := [], args := [] }

/-- 'laws.FnExactEventOk': WHATEVER THE INPUT: true; the input reads as it did. -/
def fnExactEventOkSpec : ChangeSpec := { name := "fnExactEventOk", fn := fun _ => fun
  | [d] => { results := [.lit (.bool true)], args := [d] }
  | _ => none }
def fnExactEventOkRow : OpenClaim := { program := "ytglodjbknjfmjaa", sum := "75f5cc9778b84e31c986adf59f9898693a05ab40b88ce723b7d1705177a63b6a", func := "loop.example/g00324/laws.FnExactEventOk", spec := "fnExactEventOk", apart := false }
def FnExactEventOkSaid : Prop := fnExactEventOkRow.holds Try.pinned (OpenSpec.ofChange fnExactEventOkSpec)

/-- ITS FALSE NEIGHBOUR: 'it returns false'. Refute it at one input. -/
def fnExactEventOkWrong : ChangeSpec := { name := "fnExactEventOk", fn := fun _ => fun
  | [d] => { results := [.lit (.bool false)], args := [d] }
  | _ => none }
def FnExactEventOkWrongFalsely : Prop := fnExactEventOkRow.holds Try.pinned (OpenSpec.ofChange fnExactEventOkWrong)

/-- 'laws.FnExactPiecesOf': WHATEVER THE INPUT: true; the input reads as it did. -/
def fnExactPiecesOfSpec : ChangeSpec := { name := "fnExactPiecesOf", fn := fun _ => fun
  | [d] => { results := [.lit (.bool true)], args := [d] }
  | _ => none }
def fnExactPiecesOfRow : OpenClaim := { program := "ytglodjbknjfmjaa", sum := "75f5cc9778b84e31c986adf59f9898693a05ab40b88ce723b7d1705177a63b6a", func := "loop.example/g00324/laws.FnExactPiecesOf", spec := "fnExactPiecesOf", apart := false }
def FnExactPiecesOfSaid : Prop := fnExactPiecesOfRow.holds Try.pinned (OpenSpec.ofChange fnExactPiecesOfSpec)

/-- ITS FALSE NEIGHBOUR: 'it returns false'. Refute it at one input. -/
def fnExactPiecesOfWrong : ChangeSpec := { name := "fnExactPiecesOf", fn := fun _ => fun
  | [d] => { results := [.lit (.bool false)], args := [d] }
  | _ => none }
def FnExactPiecesOfWrongFalsely : Prop := fnExactPiecesOfRow.holds Try.pinned (OpenSpec.ofChange fnExactPiecesOfWrong)

/-- 'laws.FnExactLinkNew': WHATEVER THE INPUT: true; the input reads as it did. -/
def fnExactLinkNewSpec : ChangeSpec := { name := "fnExactLinkNew", fn := fun _ => fun
  | [d] => { results := [.lit (.bool true)], args := [d] }
  | _ => none }
def fnExactLinkNewRow : OpenClaim := { program := "ytglodjbknjfmjaa", sum := "75f5cc9778b84e31c986adf59f9898693a05ab40b88ce723b7d1705177a63b6a", func := "loop.example/g00324/laws.FnExactLinkNew", spec := "fnExactLinkNew", apart := false }
def FnExactLinkNewSaid : Prop := fnExactLinkNewRow.holds Try.pinned (OpenSpec.ofChange fnExactLinkNewSpec)

/-- ITS FALSE NEIGHBOUR: 'it returns false'. Refute it at one input. -/
def fnExactLinkNewWrong : ChangeSpec := { name := "fnExactLinkNew", fn := fun _ => fun
  | [d] => { results := [.lit (.bool false)], args := [d] }
  | _ => none }
def FnExactLinkNewWrongFalsely : Prop := fnExactLinkNewRow.holds Try.pinned (OpenSpec.ofChange fnExactLinkNewWrong)

/-- 'laws.FnExactLinkSays': WHATEVER THE INPUT: true; the input reads as it did. -/
def fnExactLinkSaysSpec : ChangeSpec := { name := "fnExactLinkSays", fn := fun _ => fun
  | [d] => { results := [.lit (.bool true)], args := [d] }
  | _ => none }
def fnExactLinkSaysRow : OpenClaim := { program := "ytglodjbknjfmjaa", sum := "75f5cc9778b84e31c986adf59f9898693a05ab40b88ce723b7d1705177a63b6a", func := "loop.example/g00324/laws.FnExactLinkSays", spec := "fnExactLinkSays", apart := false }
def FnExactLinkSaysSaid : Prop := fnExactLinkSaysRow.holds Try.pinned (OpenSpec.ofChange fnExactLinkSaysSpec)

/-- ITS FALSE NEIGHBOUR: 'it returns false'. Refute it at one input. -/
def fnExactLinkSaysWrong : ChangeSpec := { name := "fnExactLinkSays", fn := fun _ => fun
  | [d] => { results := [.lit (.bool false)], args := [d] }
  | _ => none }
def FnExactLinkSaysWrongFalsely : Prop := fnExactLinkSaysRow.holds Try.pinned (OpenSpec.ofChange fnExactLinkSaysWrong)

/-- 'laws.FnExactSyncOver': WHATEVER THE INPUT: true; the input reads as it did. -/
def fnExactSyncOverSpec : ChangeSpec := { name := "fnExactSyncOver", fn := fun _ => fun
  | [d] => { results := [.lit (.bool true)], args := [d] }
  | _ => none }
def fnExactSyncOverRow : OpenClaim := { program := "ytglodjbknjfmjaa", sum := "75f5cc9778b84e31c986adf59f9898693a05ab40b88ce723b7d1705177a63b6a", func := "loop.example/g00324/laws.FnExactSyncOver", spec := "fnExactSyncOver", apart := false }
def FnExactSyncOverSaid : Prop := fnExactSyncOverRow.holds Try.pinned (OpenSpec.ofChange fnExactSyncOverSpec)

/-- ITS FALSE NEIGHBOUR: 'it returns false'. Refute it at one input. -/
def fnExactSyncOverWrong : ChangeSpec := { name := "fnExactSyncOver", fn := fun _ => fun
  | [d] => { results := [.lit (.bool false)], args := [d] }
  | _ => none }
def FnExactSyncOverWrongFalsely : Prop := fnExactSyncOverRow.holds Try.pinned (OpenSpec.ofChange fnExactSyncOverWrong)

/-- 'laws.FnLinks': WHATEVER THE INPUT: true; the input reads as it did. -/
def fnLinksSpec : ChangeSpec := { name := "fnLinks", fn := fun _ => fun
  | [d] => { results := [.lit (.bool true)], args := [d] }
  | _ => none }
def fnLinksRow : OpenClaim := { program := "ytglodjbknjfmjaa", sum := "75f5cc9778b84e31c986adf59f9898693a05ab40b88ce723b7d1705177a63b6a", func := "loop.example/g00324/laws.FnLinks", spec := "fnLinks", apart := false }
def FnLinksSaid : Prop := fnLinksRow.holds Try.pinned (OpenSpec.ofChange fnLinksSpec)

/-- ITS FALSE NEIGHBOUR: 'it returns false'. Refute it at one input. -/
def fnLinksWrong : ChangeSpec := { name := "fnLinks", fn := fun _ => fun
  | [d] => { results := [.lit (.bool false)], args := [d] }
  | _ => none }
def FnLinksWrongFalsely : Prop := fnLinksRow.holds Try.pinned (OpenSpec.ofChange fnLinksWrong)

/-- 'laws.FnExactPacketText': WHATEVER THE INPUT: true; the input reads as it did. -/
def fnExactPacketTextSpec : ChangeSpec := { name := "fnExactPacketText", fn := fun _ => fun
  | [d] => { results := [.lit (.bool true)], args := [d] }
  | _ => none }
def fnExactPacketTextRow : OpenClaim := { program := "ytglodjbknjfmjaa", sum := "75f5cc9778b84e31c986adf59f9898693a05ab40b88ce723b7d1705177a63b6a", func := "loop.example/g00324/laws.FnExactPacketText", spec := "fnExactPacketText", apart := false }
def FnExactPacketTextSaid : Prop := fnExactPacketTextRow.holds Try.pinned (OpenSpec.ofChange fnExactPacketTextSpec)

/-- ITS FALSE NEIGHBOUR: 'it returns false'. Refute it at one input. -/
def fnExactPacketTextWrong : ChangeSpec := { name := "fnExactPacketText", fn := fun _ => fun
  | [d] => { results := [.lit (.bool false)], args := [d] }
  | _ => none }
def FnExactPacketTextWrongFalsely : Prop := fnExactPacketTextRow.holds Try.pinned (OpenSpec.ofChange fnExactPacketTextWrong)

/-- 'laws.FnExactLinkPut': WHATEVER THE INPUT: true; the input reads as it did. -/
def fnExactLinkPutSpec : ChangeSpec := { name := "fnExactLinkPut", fn := fun _ => fun
  | [d1, d2] => { results := [.lit (.bool true)], args := [d1, d2] }
  | _ => none }
def fnExactLinkPutRow : OpenClaim := { program := "ytglodjbknjfmjaa", sum := "75f5cc9778b84e31c986adf59f9898693a05ab40b88ce723b7d1705177a63b6a", func := "loop.example/g00324/laws.FnExactLinkPut", spec := "fnExactLinkPut", apart := false }
def FnExactLinkPutSaid : Prop := fnExactLinkPutRow.holds Try.pinned (OpenSpec.ofChange fnExactLinkPutSpec)

/-- ITS FALSE NEIGHBOUR: 'it returns false'. Refute it at one input. -/
def fnExactLinkPutWrong : ChangeSpec := { name := "fnExactLinkPut", fn := fun _ => fun
  | [d1, d2] => { results := [.lit (.bool false)], args := [d1, d2] }
  | _ => none }
def FnExactLinkPutWrongFalsely : Prop := fnExactLinkPutRow.holds Try.pinned (OpenSpec.ofChange fnExactLinkPutWrong)

/-- 'laws.FnExactSyncEnds': WHATEVER THE INPUT: true; the input reads as it did. -/
def fnExactSyncEndsSpec : ChangeSpec := { name := "fnExactSyncEnds", fn := fun _ => fun
  | [d1, d2] => { results := [.lit (.bool true)], args := [d1, d2] }
  | _ => none }
def fnExactSyncEndsRow : OpenClaim := { program := "ytglodjbknjfmjaa", sum := "75f5cc9778b84e31c986adf59f9898693a05ab40b88ce723b7d1705177a63b6a", func := "loop.example/g00324/laws.FnExactSyncEnds", spec := "fnExactSyncEnds", apart := false }
def FnExactSyncEndsSaid : Prop := fnExactSyncEndsRow.holds Try.pinned (OpenSpec.ofChange fnExactSyncEndsSpec)

/-- ITS FALSE NEIGHBOUR: 'it returns false'. Refute it at one input. -/
def fnExactSyncEndsWrong : ChangeSpec := { name := "fnExactSyncEnds", fn := fun _ => fun
  | [d1, d2] => { results := [.lit (.bool false)], args := [d1, d2] }
  | _ => none }
def FnExactSyncEndsWrongFalsely : Prop := fnExactSyncEndsRow.holds Try.pinned (OpenSpec.ofChange fnExactSyncEndsWrong)

/-- 'laws.FnExactReadPacket': WHATEVER THE INPUT: true; the input reads as it did. -/
def fnExactReadPacketSpec : ChangeSpec := { name := "fnExactReadPacket", fn := fun _ => fun
  | [d] => { results := [.lit (.bool true)], args := [d] }
  | _ => none }
def fnExactReadPacketRow : OpenClaim := { program := "ytglodjbknjfmjaa", sum := "75f5cc9778b84e31c986adf59f9898693a05ab40b88ce723b7d1705177a63b6a", func := "loop.example/g00324/laws.FnExactReadPacket", spec := "fnExactReadPacket", apart := false }
def FnExactReadPacketSaid : Prop := fnExactReadPacketRow.holds Try.pinned (OpenSpec.ofChange fnExactReadPacketSpec)

/-- ITS FALSE NEIGHBOUR: 'it returns false'. Refute it at one input. -/
def fnExactReadPacketWrong : ChangeSpec := { name := "fnExactReadPacket", fn := fun _ => fun
  | [d] => { results := [.lit (.bool false)], args := [d] }
  | _ => none }
def FnExactReadPacketWrongFalsely : Prop := fnExactReadPacketRow.holds Try.pinned (OpenSpec.ofChange fnExactReadPacketWrong)

/-- 'laws.FnExactServerNew': WHATEVER THE INPUT: true; the input reads as it did. -/
def fnExactServerNewSpec : ChangeSpec := { name := "fnExactServerNew", fn := fun _ => fun
  | [d] => { results := [.lit (.bool true)], args := [d] }
  | _ => none }
def fnExactServerNewRow : OpenClaim := { program := "ytglodjbknjfmjaa", sum := "75f5cc9778b84e31c986adf59f9898693a05ab40b88ce723b7d1705177a63b6a", func := "loop.example/g00324/laws.FnExactServerNew", spec := "fnExactServerNew", apart := false }
def FnExactServerNewSaid : Prop := fnExactServerNewRow.holds Try.pinned (OpenSpec.ofChange fnExactServerNewSpec)

/-- ITS FALSE NEIGHBOUR: 'it returns false'. Refute it at one input. -/
def fnExactServerNewWrong : ChangeSpec := { name := "fnExactServerNew", fn := fun _ => fun
  | [d] => { results := [.lit (.bool false)], args := [d] }
  | _ => none }
def FnExactServerNewWrongFalsely : Prop := fnExactServerNewRow.holds Try.pinned (OpenSpec.ofChange fnExactServerNewWrong)

/-- 'laws.FnPackets': WHATEVER THE INPUT: true; the input reads as it did. -/
def fnPacketsSpec : ChangeSpec := { name := "fnPackets", fn := fun _ => fun
  | [d] => { results := [.lit (.bool true)], args := [d] }
  | _ => none }
def fnPacketsRow : OpenClaim := { program := "ytglodjbknjfmjaa", sum := "75f5cc9778b84e31c986adf59f9898693a05ab40b88ce723b7d1705177a63b6a", func := "loop.example/g00324/laws.FnPackets", spec := "fnPackets", apart := false }
def FnPacketsSaid : Prop := fnPacketsRow.holds Try.pinned (OpenSpec.ofChange fnPacketsSpec)

/-- ITS FALSE NEIGHBOUR: 'it returns false'. Refute it at one input. -/
def fnPacketsWrong : ChangeSpec := { name := "fnPackets", fn := fun _ => fun
  | [d] => { results := [.lit (.bool false)], args := [d] }
  | _ => none }
def FnPacketsWrongFalsely : Prop := fnPacketsRow.holds Try.pinned (OpenSpec.ofChange fnPacketsWrong)

/- THE SECOND FORM. 'bulk': how many values and letters a reading holds, each counted each time it is reached (what is shared counts as often as it is met; a slice's spare places count too). A statement '..UptoSaid' is the law's where the arguments, and the package variables that the reading takes, are together of bulk at most 1048576: NARROWER than '..Said'. Prove '..Said' where nothing that the law and all that it calls make is longer than what came in: it says more and counts as full. Else prove '..UptoSaid'. A law counts once. -/
mutual
def uptoBulk {H : Type} : DataW H → Nat
  | .lit (.string bytes) => bytes.length + 1
  | .lit _ => 1
  | .nil => 1
  | .ptr d => uptoBulk d + 1
  | .slice elems spare => uptoBulkAll elems + uptoBulkAll spare + 1
  | .agg parts => uptoBulkAll parts + 1
  | .iface _ d => uptoBulk d + 1
  | .map entries => uptoBulkEntries entries + 1
  | .held _ => 1
def uptoBulkAll {H : Type} : List (DataW H) → Nat
  | [] => 0
  | d :: r => uptoBulk d + uptoBulkAll r
def uptoBulkEntries {H : Type} : List (Lit × DataW H) → Nat
  | [] => 0
  | x :: r => uptoBulkEntry x + uptoBulkEntries r
def uptoBulkEntry {H : Type} : Lit × DataW H → Nat
  | (.string bytes, d) => bytes.length + uptoBulk d + 1
  | (_, d) => uptoBulk d + 1
 end
def uptoSmall : (H : Type) → List (DataW H) → Bool := fun _ ds => decide (uptoBulkAll ds ≤ 1048576)
def OpenSpec.upto (s : _root_.Go.ChangeSpec) : _root_.Go.OpenSpec := { _root_.Go.OpenSpec.ofChange s with cond := some uptoSmall }

/-- 'laws.FnExactEventOk', WHERE WHAT IT READS IS OF BULK AT MOST 1048576: true; the input reads as it did. -/
def fnExactEventOkUptoRow : OpenClaim := { program := "ytglodjbknjfmjaa", sum := "75f5cc9778b84e31c986adf59f9898693a05ab40b88ce723b7d1705177a63b6a", func := "loop.example/g00324/laws.FnExactEventOk", spec := "fnExactEventOk", apart := false, narrowed := true }
def FnExactEventOkUptoSaid : Prop := fnExactEventOkUptoRow.holds Try.pinned (OpenSpec.upto fnExactEventOkSpec)

/-- 'laws.FnExactPiecesOf', WHERE WHAT IT READS IS OF BULK AT MOST 1048576: true; the input reads as it did. -/
def fnExactPiecesOfUptoRow : OpenClaim := { program := "ytglodjbknjfmjaa", sum := "75f5cc9778b84e31c986adf59f9898693a05ab40b88ce723b7d1705177a63b6a", func := "loop.example/g00324/laws.FnExactPiecesOf", spec := "fnExactPiecesOf", apart := false, narrowed := true }
def FnExactPiecesOfUptoSaid : Prop := fnExactPiecesOfUptoRow.holds Try.pinned (OpenSpec.upto fnExactPiecesOfSpec)

/-- 'laws.FnExactLinkNew', WHERE WHAT IT READS IS OF BULK AT MOST 1048576: true; the input reads as it did. -/
def fnExactLinkNewUptoRow : OpenClaim := { program := "ytglodjbknjfmjaa", sum := "75f5cc9778b84e31c986adf59f9898693a05ab40b88ce723b7d1705177a63b6a", func := "loop.example/g00324/laws.FnExactLinkNew", spec := "fnExactLinkNew", apart := false, narrowed := true }
def FnExactLinkNewUptoSaid : Prop := fnExactLinkNewUptoRow.holds Try.pinned (OpenSpec.upto fnExactLinkNewSpec)

/-- 'laws.FnExactLinkSays', WHERE WHAT IT READS IS OF BULK AT MOST 1048576: true; the input reads as it did. -/
def fnExactLinkSaysUptoRow : OpenClaim := { program := "ytglodjbknjfmjaa", sum := "75f5cc9778b84e31c986adf59f9898693a05ab40b88ce723b7d1705177a63b6a", func := "loop.example/g00324/laws.FnExactLinkSays", spec := "fnExactLinkSays", apart := false, narrowed := true }
def FnExactLinkSaysUptoSaid : Prop := fnExactLinkSaysUptoRow.holds Try.pinned (OpenSpec.upto fnExactLinkSaysSpec)

/-- 'laws.FnExactSyncOver', WHERE WHAT IT READS IS OF BULK AT MOST 1048576: true; the input reads as it did. -/
def fnExactSyncOverUptoRow : OpenClaim := { program := "ytglodjbknjfmjaa", sum := "75f5cc9778b84e31c986adf59f9898693a05ab40b88ce723b7d1705177a63b6a", func := "loop.example/g00324/laws.FnExactSyncOver", spec := "fnExactSyncOver", apart := false, narrowed := true }
def FnExactSyncOverUptoSaid : Prop := fnExactSyncOverUptoRow.holds Try.pinned (OpenSpec.upto fnExactSyncOverSpec)

/-- 'laws.FnLinks', WHERE WHAT IT READS IS OF BULK AT MOST 1048576: true; the input reads as it did. -/
def fnLinksUptoRow : OpenClaim := { program := "ytglodjbknjfmjaa", sum := "75f5cc9778b84e31c986adf59f9898693a05ab40b88ce723b7d1705177a63b6a", func := "loop.example/g00324/laws.FnLinks", spec := "fnLinks", apart := false, narrowed := true }
def FnLinksUptoSaid : Prop := fnLinksUptoRow.holds Try.pinned (OpenSpec.upto fnLinksSpec)

/-- 'laws.FnExactPacketText', WHERE WHAT IT READS IS OF BULK AT MOST 1048576: true; the input reads as it did. -/
def fnExactPacketTextUptoRow : OpenClaim := { program := "ytglodjbknjfmjaa", sum := "75f5cc9778b84e31c986adf59f9898693a05ab40b88ce723b7d1705177a63b6a", func := "loop.example/g00324/laws.FnExactPacketText", spec := "fnExactPacketText", apart := false, narrowed := true }
def FnExactPacketTextUptoSaid : Prop := fnExactPacketTextUptoRow.holds Try.pinned (OpenSpec.upto fnExactPacketTextSpec)

/-- 'laws.FnExactLinkPut', WHERE WHAT IT READS IS OF BULK AT MOST 1048576: true; the input reads as it did. -/
def fnExactLinkPutUptoRow : OpenClaim := { program := "ytglodjbknjfmjaa", sum := "75f5cc9778b84e31c986adf59f9898693a05ab40b88ce723b7d1705177a63b6a", func := "loop.example/g00324/laws.FnExactLinkPut", spec := "fnExactLinkPut", apart := false, narrowed := true }
def FnExactLinkPutUptoSaid : Prop := fnExactLinkPutUptoRow.holds Try.pinned (OpenSpec.upto fnExactLinkPutSpec)

/-- 'laws.FnExactSyncEnds', WHERE WHAT IT READS IS OF BULK AT MOST 1048576: true; the input reads as it did. -/
def fnExactSyncEndsUptoRow : OpenClaim := { program := "ytglodjbknjfmjaa", sum := "75f5cc9778b84e31c986adf59f9898693a05ab40b88ce723b7d1705177a63b6a", func := "loop.example/g00324/laws.FnExactSyncEnds", spec := "fnExactSyncEnds", apart := false, narrowed := true }
def FnExactSyncEndsUptoSaid : Prop := fnExactSyncEndsUptoRow.holds Try.pinned (OpenSpec.upto fnExactSyncEndsSpec)

/-- 'laws.FnExactReadPacket', WHERE WHAT IT READS IS OF BULK AT MOST 1048576: true; the input reads as it did. -/
def fnExactReadPacketUptoRow : OpenClaim := { program := "ytglodjbknjfmjaa", sum := "75f5cc9778b84e31c986adf59f9898693a05ab40b88ce723b7d1705177a63b6a", func := "loop.example/g00324/laws.FnExactReadPacket", spec := "fnExactReadPacket", apart := false, narrowed := true }
def FnExactReadPacketUptoSaid : Prop := fnExactReadPacketUptoRow.holds Try.pinned (OpenSpec.upto fnExactReadPacketSpec)

/-- 'laws.FnExactServerNew', WHERE WHAT IT READS IS OF BULK AT MOST 1048576: true; the input reads as it did. -/
def fnExactServerNewUptoRow : OpenClaim := { program := "ytglodjbknjfmjaa", sum := "75f5cc9778b84e31c986adf59f9898693a05ab40b88ce723b7d1705177a63b6a", func := "loop.example/g00324/laws.FnExactServerNew", spec := "fnExactServerNew", apart := false, narrowed := true }
def FnExactServerNewUptoSaid : Prop := fnExactServerNewUptoRow.holds Try.pinned (OpenSpec.upto fnExactServerNewSpec)

/-- 'laws.FnPackets', WHERE WHAT IT READS IS OF BULK AT MOST 1048576: true; the input reads as it did. -/
def fnPacketsUptoRow : OpenClaim := { program := "ytglodjbknjfmjaa", sum := "75f5cc9778b84e31c986adf59f9898693a05ab40b88ce723b7d1705177a63b6a", func := "loop.example/g00324/laws.FnPackets", spec := "fnPackets", apart := false, narrowed := true }
def FnPacketsUptoSaid : Prop := fnPacketsUptoRow.holds Try.pinned (OpenSpec.upto fnPacketsSpec)

end Rows
end Go.Proofs.Ytglodjbknjfmjaa
