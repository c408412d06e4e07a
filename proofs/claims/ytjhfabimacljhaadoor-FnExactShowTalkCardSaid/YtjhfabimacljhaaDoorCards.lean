/-
  DERIVED. GIVEN WITH THE SEED: THE CARDS: each row of YtjhfabimacljhaaDoorRows.lean that lists a variable, with what it lists TIED to the program's text (the seventh form; the later family's looks); each row that meets fmt, with fmt's text TOLD by the authors' own Lean function (tested against real Go, not proved from fmt's source: count such statements apart). THE CARD IS WHAT COUNTS. Prove the row's statement (the work); the ties are given (YtjhfabimacljhaaDoorTie.lean); close each card by the builder's one call (the guide's Derived/Test/ToyasCard.lean, 'card_holds'). Laid BY PROGRAM, IN A SANDBOX (cutbox-door.mjs). By AI agents, Wed Nov 11 2026. No macro, syntax, notation, axiom, sorry.
-/
import Derived.Test.YtjhfabimacljhaaDoorRows
import GoSem.ClaimSeven
namespace Go.Proofs.YtjhfabimacljhaaDoor
namespace Rows

/-- THE TIED CARD OF 'laws.FnExactShowTalk'. -/
def fnExactShowTalkCard : Claim7 := { stood := { row := fnExactShowTalkRow, standIns := [], harness := (true, "bafdbef21c6dfea9c7e9adbe035bf616862fd9b246a10a58567d6ea938f9d80a"), looks := false }, kinds := [], alts := [], laidByText := true, laidKinds := [.data, .pinned], laidTests := true, laidLooks := .later }
def FnExactShowTalkCardSaid : Prop := Claim7.holds Tryd.pinned (.plain (OpenSpec.ofChange fnExactShowTalkSpec)) fnExactShowTalkCard

/-- THE SECOND FORM's CARD OF 'laws.FnExactShowTalk'. -/
def fnExactShowTalkUptoCard : Claim7 := { stood := { row := fnExactShowTalkUptoRow, standIns := [], harness := (true, "bafdbef21c6dfea9c7e9adbe035bf616862fd9b246a10a58567d6ea938f9d80a"), looks := false }, kinds := [], alts := [], laidByText := true, laidKinds := [.data, .pinned], laidTests := true, laidLooks := .later }
def FnExactShowTalkUptoCardSaid : Prop := Claim7.holds Tryd.pinned (.plain (OpenSpec.upto fnExactShowTalkSpec)) fnExactShowTalkUptoCard
end Rows
end Go.Proofs.YtjhfabimacljhaaDoor
