/- Structs compared. Nothing here depends on the program. -/
import Derived.Test.YtiipkeendfpddaaGreatPM
import Derived.Test.YtiipkeendfpddaaGreatG3
import Derived.Laws.StructEq
namespace Go.Proofs.YtiipkeendfpddaaGreat.K
open Go Go.RowKit
set_option linter.unusedVariables false
set_option linter.unusedSimpArgs false
def eq1 (i : Option TInfo) (x y : V) : Option Bool :=
  match i, x, y with
  | some ⟨.int _, _, _, _⟩, .int k a, .int k' b => if k = k' then some (decide (a = b)) else none
  | some ⟨.bool, _, _, _⟩, .bool a, .bool b => some (a == b)
  | some ⟨.str, _, _, _⟩, .str a, .str b => some (decide (a = b))
  | _, _, _ => none
def eqF (S : TypeId → V → V → Option Bool) (ti : Tab) (a b : List V) : List (Nat × TypeId) → Option Bool
  | [] => some true
  | (o, t) :: r => match ti t with
    | some i => match partV i a o, partV i b o with
      | some x, some y => match S t x y, eqF S ti a b r with | some p, some q => some (p && q) | _, _ => none
      | _, _ => none
    | none => none
def eqV (ti : Tab) : Nat → TypeId → V → V → Option Bool
  | 0, _, _, _ => none
  | d + 1, t, x, y => match ti t, x, y with
    | some ⟨.struct fs, _, _, _⟩, .agg a, .agg b => eqF (eqV ti d) ti a b fs
    | i, x, y => eq1 i x y
def eqNames (P : Program) : Nat → TypeId → Bool
  | 0, _ => true
  | d + 1, t => match P.underlying t with
    | some (.struct fs) => !P.stoodInHeld t && fs.toList.all fun f => !(f.name == "_") && eqNames P d f.type
    | _ => true
section
variable {P : Program} {ti : Tab} {base : Base} {σ : Sig} {w : World}
variable {t : List V} {n : Nat} {o : Oper} {ops : Array Oper}
end
end Go.Proofs.YtiipkeendfpddaaGreat.K
