/- One function for the operations that write nothing that is there, and that it is what the machine does. Nothing here depends on the program. -/
import Derived.Test.YtjhfabimacljhaaKg
import Derived.Laws.Slices
namespace Go.Proofs.Ytjhfabimacljhaa.K
open Go Go.RowKit

/-- Parts laid over cells. -/
def setAt (cs : List V) (off : Nat) : List V → List V
  | [] => cs
  | x :: xs => setAt (cs.set off x) (off + 1) xs
theorem setAt_len (seg : List V) : ∀ (cs : List V) (off : Nat), (setAt cs off seg).length = cs.length := by
  induction seg with
  | nil => intro cs off; rfl
  | cons x xs ih => intro cs off; simp only [setAt]; rw [ih, List.length_set]
/-- Fields laid over a struct's cells. -/
def fillV (ti : Tab) (fs : List (Nat × TypeId)) : List V → List (Nat × V) → Option (List V)
  | cs, [] => some cs
  | cs, (i, x) :: rest =>
    match fs[i]? with
    | some (off, ty) =>
      match ti ty with
      | some inf => if x.known && (cellsV x).length == inf.size && decide (off + (cellsV x).length ≤ cs.length) then fillV ti fs (setAt cs off (cellsV x)) rest else none
      | none => none
    | none => none
/-- Elements of a slice that is written out. -/
def fillE (sz : Nat) : List (List V) → List (Nat × V) → Option (List (List V))
  | es, [] => some es
  | es, (i, x) :: rest => if x.known && (cellsV x).length == sz && decide (i < es.length) then fillE sz (es.set i (cellsV x)) rest else none
/-- Bytes out of a slice. -/
def bytesV : List (List V) → Option (List UInt8)
  | [] => some []
  | [.int .u8 n] :: es => (bytesV es).map (UInt8.ofNat n.toNat :: ·)
  | _ => none
def convV (ti : Tab) (src dst : TypeId) (x : V) : Option V :=
  match ti src, ti dst, x with
  | some _, some ⟨.int k, _, _, _⟩, .int _ n => some (.int k (k.wrap n))
  | some ⟨.str, _, _, _⟩, some ⟨.str, _, _, _⟩, .str s => some (.str s)
  | some ⟨.slice e, _, _, _⟩, some ⟨.str, _, _, _⟩, .sl _ _ _ es => (ti e).bind fun i => match i.kind with | .int .u8 => (bytesV es).map .str | _ => none
  | some ⟨.slice e, _, _, _⟩, some ⟨.str, _, _, _⟩, .nil _ => (ti e).bind fun i => match i.kind with | .int .u8 => some (.str []) | _ => none
  | _, _, _ => none
def fieldOf (ti : Tab) (T : TypeId) (f : Nat) : Option (Nat × TypeId) :=
  match ti T with
  | some ⟨.struct fs, _, _, _⟩ => fs[f]?
  | _ => none
def idxV (ti : Tab) (T : TypeId) (x ix : V) : Option V :=
  match x, ix with
  | .sl L _ off es, .int _ i => if 0 ≤ i then (match es[i.toNat]? with | some e => if esz ti T = some e.length then some (.ptr L (off + i.toNat) 0 e) else none | none => none) else none
  | _, _ => none
def byteV (ti : Tab) (T : TypeId) (x ix : V) : Option V :=
  match ti T, x, ix with
  | some ⟨.str, _, _, _⟩, .str s, .int _ i => if 0 ≤ i then (s[i.toNat]?).map fun b => .int .u8 (b.toNat : Int) else none
  | _, _, _ => none
/-- The bounds of a part: they lie in 0 .. n, in order. -/
def boundV (n : Nat) : Option V → Option Nat
  | none => some n
  | some (.int _ i) => if 0 ≤ i ∧ i ≤ (n : Int) then some i.toNat else none
  | some _ => none
def lowV : Option V → Nat → Option Nat
  | none, _ => some 0
  | some x, n => boundV n (some x)
def sliceV (ti : Tab) (T : TypeId) (x : V) (lo hi : Option V) : Option V :=
  match ti T, x with
  | some ⟨.str, _, _, _⟩, .str s => (boundV s.length hi).bind fun h => (lowV lo h).bind fun l => some (.str ((s.take h).drop l))
  | some ⟨.slice e, _, _, _⟩, .sl L sz off es => (boundV es.length hi).bind fun h => (lowV lo h).bind fun l => if (ti e).map (·.size) = some sz then some (.sl L sz (off + l) ((es.take h).drop l)) else none
  | some ⟨.slice e, _, _, _⟩, .nil sz => (boundV 0 hi).bind fun h => (lowV lo h).bind fun _ => if (ti e).isSome then some (.nil sz) else none
  | _, _ => none
def lenV : V → Option V
  | .str s => some (.int .i64 (s.length : Int))
  | .sl _ _ _ es => some (.int .i64 (es.length : Int))
  | .nil _ => some (.int .i64 0)
  | _ => none
def lenFits (ti : Tab) (T : TypeId) (x : V) : Bool :=
  match ti T, x with
  | some ⟨.str, _, _, _⟩, .str _ => true
  | some ⟨.slice _, _, _, _⟩, .sl .. => true
  | some ⟨.slice _, _, _, _⟩, .nil _ => true
  | _, _ => false
def minV (mx : Bool) : V → V → Option V
  | .int k x, .int _ y => some (.int k (if mx then (if y > x then y else x) else (if y < x then y else x)))
  | .str x, .str y => some (.str (if mx then (if Op.bytesLess x y then y else x) else (if Op.bytesLess x y || decide (x = y) then x else y)))
  | _, _ => none
def zeroRow (ti : Tab) (e : TypeId) (m : Nat) : Option (List (List V)) := (ti e).bind fun i => if i.zero.length = i.size ∧ 0 < i.size then some (List.replicate m i.zero) else none

/-- len, min, max. -/
def bltV (ti : Tab) (t : List V) (c : Call) : Option V :=
  match c.callee with
  | .builtin b =>
    match b, c.args.toList, c.argTypes.toList with
    | .len, [x], [T] => if lenFits ti T (opnd t x) then lenV (opnd t x) else none
    | .min, [x, y], _ => minV false (opnd t x) (opnd t y)
    | .max, [x, y], _ => minV true (opnd t x) (opnd t y)
    | _, _, _ => none
  | _ => none

/-- The operation's value, and the next label. -/
def ev1 (ti : Tab) (t : List V) (n : Nat) (ty : TypeId) : Op → Option (V × Nat)
  | .move x => some (retype ti ty (opnd t x), n)
  | .assign x => some (retype ti ty (opnd t x), n)
  | .pick c a b => match opnd t c with | .bool true => some (opnd t a, n) | .bool false => some (opnd t b, n) | _ => none
  | .alloc T => match ti T with | some i => if i.zero.length = i.size ∧ i.zero ≠ [] then some (.ptr n 0 0 i.zero, n + 1) else none | none => none
  | .box _ x => if (opnd t x).known then some (.ptr n 0 0 (cellsV (opnd t x)), n + 1) else none
  | .build T parts => match ti T with | some ⟨.struct fs, _, _, z⟩ => if z ≠ [] ∧ (fs.all fun p => (ti p.2).isSome) = true then (fillV ti fs z (parts.toList.map fun p => (p.1, opnd t p.2))).map fun cs => (.agg cs, n) else none | _ => none
  | .buildSlice T len parts => match ti T with
      | some ⟨.slice e, _, _, _⟩ => match ti e with
        | some i => if len = 0 then (if parts.size = 0 ∧ 0 < i.size then some (.nil i.size, n) else none) else if len * i.size ≤ 16777216 ∧ 0 < i.size ∧ i.zero.length = i.size then (fillE i.size (List.replicate len i.zero) (parts.toList.map fun p => (p.1, opnd t p.2))).map fun es => (.sl n i.size 0 es, n + 1) else none
        | none => none
      | _ => none
  | .load T a => match ti T with | some i => (loadV i (opnd t a)).map fun x => (x, n) | none => none
  | .nilCheck x => match opnd t x with | .ptr L i o e => some (.ptr L i o e, n) | .fn f cs => some (.fn f cs, n) | _ => none
  | .binOp op T x y _ => (binV ti op T (opnd t x) (opnd t y)).map fun z => (z, n)
  | .unOp op _ x => (unV op (opnd t x)).map fun z => (z, n)
  | .convert s d x => (convV ti s d (opnd t x)).map fun z => (z, n)
  | .fieldAddr T x f => match opnd t x, fieldOf ti T f with
      | .ptr L i o e, some (off, fty) => match ti fty with | some inf => if inf.size = 0 then none else some (.ptr L i (o + off) e, n) | none => none
      | _, _ => none
  | .field T x f => match opnd t x, fieldOf ti T f with
      | .agg cs, some (off, fty) => match ti fty with | some inf => (partV inf cs off).map fun z => (z, n) | none => none
      | _, _ => none
  | .indexAddr T x ix => (idxV ti T (opnd t x) (opnd t ix)).map fun z => (z, n)
  | .index T x ix => (byteV ti T (opnd t x) (opnd t ix)).map fun z => (z, n)
  | .slice T x lo hi none => (sliceV ti T (opnd t x) (lo.map (opnd t)) (hi.map (opnd t))).map fun z => (z, n)
  | .extract x i => match opnd t x with | .tup vs => (vs[i]?).map fun z => (z, n) | _ => none
  | .makeFunc (.func f) first caps => if first.size = 0 then some (.fn f (caps.toList.map (opnd t)), n) else none
  | .call c => (bltV ti t c).map fun z => (z, n)
  | _ => none
end Go.Proofs.Ytjhfabimacljhaa.K
