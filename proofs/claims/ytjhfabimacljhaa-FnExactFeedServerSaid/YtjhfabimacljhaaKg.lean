/- The operations that write nothing that is there, as one function on abstract frames. Nothing here depends on the program. -/
import Derived.Test.YtjhfabimacljhaaKf
import Derived.Lib.Bytes
namespace Go.Proofs.Ytjhfabimacljhaa.K
open Go Go.RowKit

/-- Cells of an element of a slice type. -/
def esz (ti : Tab) (t : TypeId) : Option Nat :=
  match ti t with
  | some ⟨.slice e, _, _, _⟩ => (ti e).map (·.size)
  | _ => none
def retype (ti : Tab) (t : TypeId) : V → V
  | .nil _ => .nil ((esz ti t).getD 0)
  | v => v

def intBin (op : BinOp) (k : IntKind) (x y : Int) : Option V :=
  match op with
  | .add => some (.int k (k.wrap (x + y)))
  | .sub => some (.int k (k.wrap (x - y)))
  | .mul => some (.int k (k.wrap (x * y)))
  | .quo => if y = 0 then none else some (.int k (k.wrap (x.tdiv y)))
  | .rem => if y = 0 then none else some (.int k (x.tmod y))
  | .and => some (.int k (k.wrap (BitVec.ofInt k.bits x &&& BitVec.ofInt k.bits y).toNat))
  | .or => some (.int k (k.wrap (BitVec.ofInt k.bits x ||| BitVec.ofInt k.bits y).toNat))
  | .xor => some (.int k (k.wrap (BitVec.ofInt k.bits x ^^^ BitVec.ofInt k.bits y).toNat))
  | .eql => some (.bool (decide (x = y)))
  | .neq => some (.bool (!decide (x = y)))
  | .lss => some (.bool (decide (x < y)))
  | .leq => some (.bool (decide (x ≤ y)))
  | .gtr => some (.bool (decide (x > y)))
  | .geq => some (.bool (decide (x ≥ y)))
  | _ => none
def strBin (op : BinOp) (x y : List UInt8) : Option V :=
  match op with
  | .add => if x.length + y.length ≤ 9223372036854775807 then some (.str (x ++ y)) else none
  | .eql => some (.bool (decide (x = y)))
  | .neq => some (.bool (!decide (x = y)))
  | .lss => some (.bool (Op.bytesLess x y))
  | .leq => some (.bool (Op.bytesLess x y || decide (x = y)))
  | .gtr => some (.bool (!(Op.bytesLess x y || decide (x = y))))
  | .geq => some (.bool (!Op.bytesLess x y))
  | _ => none
def binV (ti : Tab) (op : BinOp) (T : TypeId) (x y : V) : Option V :=
  match op, x, y with
  | .shl, .int k a, .int _ b => if b < 0 then none else some (.int k (k.wrap (a * 2 ^ min b.toNat k.bits)))
  | .shr, .int k a, .int _ b => if b < 0 then none else some (.int k (a.fdiv (2 ^ min b.toNat k.bits)))
  | op, .int k a, .int k' b => if k = k' then intBin op k a b else none
  | op, .str a, .str b => strBin op a b
  | .eql, .bool a, .bool b => (ti T).bind fun i => match i.kind with | .bool => some (.bool (a == b)) | _ => none
  | .neq, .bool a, .bool b => (ti T).bind fun i => match i.kind with | .bool => some (.bool (!(a == b))) | _ => none
  | _, _, _ => none
def unV (op : UnOp) (x : V) : Option V :=
  match op, x with
  | .not, .bool b => some (.bool !b)
  | .neg, .int k n => some (.int k (k.wrap (0 - n)))
  | _, _ => none

section
variable {P : Program} {ti : Tab} {base : Base} {σ : Sig} {w : World}
theorem intBin_run {op : BinOp} {k : IntKind} {x y : Int} {r : V} (hn : op ≠ .shl) (hn' : op ≠ .shr) (h : intBin op k x y = some r) (t : TypeId) (w : World) : ∃ u, (binOp op t (.int k x) (.int k y)).run P w = .ok u w ∧ M base σ w r u := by
  cases op <;> simp only [intBin, Option.some.injEq, reduceCtorEq] at h <;> first
    | (exact absurd rfl hn)
    | (exact absurd rfl hn')
    | (subst h; refine ⟨_, ?_, .int _ _⟩; simp [binOp, Op.intArith, Op.intBits]; done)
    | (subst h; refine ⟨_, ?_, .bool _⟩; simp [binOp, Op.intCmp, Bool.beq_eq_decide_eq, bne]; done)
    | (split at h
       · cases h
       · rename_i hy
         obtain rfl := Option.some.inj h
         refine ⟨_, ?_, .int _ _⟩
         simp [binOp, Op.intDiv, hy])
theorem strBin_run {op : BinOp} {x y : List UInt8} {r : V} (h : strBin op x y = some r) (t : TypeId) (w : World) : ∃ u, (binOp op t (.string ⟨x.toArray⟩) (.string ⟨y.toArray⟩)).run P w = .ok u w ∧ M base σ w r u := by
  have hx : (⟨x.toArray⟩ : ByteArray).size = x.length := by simp [ByteArray.size]
  have hy : (⟨y.toArray⟩ : ByteArray).size = y.length := by simp [ByteArray.size]
  have hmax : IntKind.i64.max = 9223372036854775807 := by rfl
  cases op <;> simp only [strBin, Option.some.injEq, reduceCtorEq] at h <;> first
    | (subst h; refine ⟨_, ?_, .bool _⟩; simp [binOp, Op.stringOp, Bool.beq_eq_decide_eq]; done)
    | (split at h
       · rename_i hle
         obtain rfl := Option.some.inj h
         refine ⟨_, ?_, .str _⟩
         have hadd : (⟨x.toArray⟩ : ByteArray) ++ ⟨y.toArray⟩ = ⟨(x ++ y).toArray⟩ := by
           apply ByteArray.ext
           simp
         simp only [binOp, Op.stringOp, hx, hy, hmax, hadd]
         rw [if_neg (by omega)]
         rfl
       · cases h)
theorem binV_run {op : BinOp} {T : TypeId} {x y : V} {r : V} (hti : TabOk P ti) (h : binV ti op T x y = some r) {u v : Value} (hx : M base σ w x u) (hy : M base σ w y v) :
    ∃ z, (binOp op T u v).run P w = .ok z w ∧ M base σ w r z ∧ (∀ cs, u ≠ .agg cs) ∧ u ≠ .nilIface := by
  unfold binV at h
  split at h
  · cases hx; cases hy
    split at h
    · cases h
    · rename_i hb
      obtain rfl := Option.some.inj h
      refine ⟨_, ?_, .int _ _, by simp, by simp⟩
      simp [binOp, Op.shift, hb]
  · cases hx; cases hy
    split at h
    · cases h
    · rename_i hb
      obtain rfl := Option.some.inj h
      refine ⟨_, ?_, .int _ _, by simp, by simp⟩
      simp [binOp, Op.shift, hb]
  · rename_i hn hn'
    cases hx; cases hy
    split at h
    · rename_i hk
      subst hk
      obtain ⟨z, h1, h2⟩ := intBin_run (base := base) (σ := σ) (P := P) (by simpa using hn) (by simpa using hn') h T w
      exact ⟨z, h1, h2, by simp, by simp⟩
    · cases h
  · cases hx; cases hy
    obtain ⟨z, h1, h2⟩ := strBin_run (base := base) (σ := σ) (P := P) h T w
    exact ⟨z, h1, h2, by simp, by simp⟩
  · cases hx; cases hy
    obtain ⟨i, hi, h⟩ := Option.bind_eq_some_iff.1 h
    split at h
    · rename_i hk
      obtain rfl := Option.some.inj h
      have hu := und_bool (hti _ _ hi) hk
      refine ⟨_, ?_, .bool _, by simp, by simp⟩
      rw [run_eql_bool _ _ _ _ hu]
    · cases h
  · cases hx; cases hy
    obtain ⟨i, hi, h⟩ := Option.bind_eq_some_iff.1 h
    split at h
    · rename_i hk
      obtain rfl := Option.some.inj h
      have hu := und_bool (hti _ _ hi) hk
      refine ⟨_, ?_, .bool _, by simp, by simp⟩
      rw [run_neq_bool _ _ _ _ hu]
    · cases h
  · cases h
end
end Go.Proofs.Ytjhfabimacljhaa.K
