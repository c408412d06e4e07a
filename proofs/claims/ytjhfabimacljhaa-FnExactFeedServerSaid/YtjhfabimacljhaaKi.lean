/- ev1 is what the machine does. Nothing here depends on the program. -/
import Derived.Test.YtjhfabimacljhaaKh
import Derived.Lib.ConvBytes
namespace Go.Proofs.Ytjhfabimacljhaa.K
open Go Go.RowKit

section
variable {P : Program} {ti : Tab} {t h : List V} {n : Nat} {o : Oper}
theorem retype_M {base : Base} {σ : Sig} {w : World} {x : V} {v : Value} (ty : TypeId) (hm : M base σ w x v) : M base σ w (retype ti ty x) v := by
  unfold retype
  split
  · cases hm; exact .nil _ _
  · exact hm

theorem ok_move {x : Operand} (ho : o.op = .move x ∨ o.op = .assign x) : OpS P o t n (retype ti o.type (opnd t x)) 0 := by
  refine OpS.val fun base σ w ρ hρ => ⟨ρ x, ?_, retype_M _ (hρ x)⟩
  rcases ho with ho | ho <;> simp [execOp, ho]

theorem ok_pick {c a b : Operand} {z : V} (ho : o.op = .pick c a b) (hz : (opnd t c = .bool true ∧ z = opnd t a) ∨ (opnd t c = .bool false ∧ z = opnd t b)) : OpS P o t n z 0 := by
  refine OpS.val fun base σ w ρ hρ => ?_
  have hc := hρ c
  rcases hz with ⟨hz, rfl⟩ | ⟨hz, rfl⟩
  · rw [hz] at hc
    generalize hcv : ρ c = cv at hc
    cases hc
    exact ⟨ρ a, by simp [execOp, ho, hcv, asBool], hρ a⟩
  · rw [hz] at hc
    generalize hcv : ρ c = cv at hc
    cases hc
    exact ⟨ρ b, by simp [execOp, ho, hcv, asBool], hρ b⟩

theorem ok_alloc {T : TypeId} {i : TInfo} (ht : TOk P T i) (ho : o.op = .alloc T) (hz : i.zero ≠ []) : OpS P o t n (.ptr n 0 0 i.zero) 1 := by
  refine OpS.newVar rfl fun base σ w ρ hρ => ?_
  obtain ⟨z, h1, h2⟩ := run_zeroValue_ ht hz w
  refine ⟨z.cells, T, ?_, zerosOk_Ms h2⟩
  simp [execOp, ho, Instr.alloc, h1, newVar, newRow]

theorem ok_box {T : TypeId} {x : Operand} (ho : o.op = .box T x) (hk : (opnd t x).known = true) : OpS P o t n (.ptr n 0 0 (cellsV (opnd t x))) 1 := by
  refine OpS.newVar rfl fun base σ w ρ hρ => ⟨(ρ x).cells, T, ?_, cells_M hk (hρ x)⟩
  simp [execOp, ho, Instr.box, newVar, newRow]

theorem ok_load {T : TypeId} {i : TInfo} {x : Operand} {z : V} (ht : TOk P T i) (ho : o.op = .load T x) (hz : loadV i (opnd t x) = some z) : OpS P o t n z 0 := by
  refine OpS.val fun base σ w ρ hρ => ?_
  obtain ⟨ad, u, h1, h2, h3⟩ := load_M ht (hρ x) hz
  exact ⟨u, by simp [execOp, ho, h1, Instr.loadAt, Instr.sureAddr, h2], h3⟩

theorem ok_nilCheck {x : Operand} {z : V} (ho : o.op = .nilCheck x) (hz : opnd t x = z) (hk : (∃ L i o' e, z = .ptr L i o' e) ∨ (∃ f cs, z = .fn f cs)) : OpS P o t n z 0 := by
  refine OpS.val fun base σ w ρ hρ => ?_
  have hx := hρ x
  rw [hz] at hx
  refine ⟨ρ x, ?_, hx⟩
  rcases hk with ⟨L, i, o', e, rfl⟩ | ⟨f, cs, rfl⟩
  · generalize hv : ρ x = v at hx
    cases hx
    simp [execOp, ho, hv]
  · generalize hv : ρ x = v at hx
    cases hx
    simp [execOp, ho, hv]

theorem ok_bin {op : BinOp} {T T' : TypeId} {x y : Operand} {z : V} (hti : TabOk P ti) (ho : o.op = .binOp op T x y T') (hz : binV ti op T (opnd t x) (opnd t y) = some z) : OpS P o t n z 0 := by
  refine OpS.val fun base σ w ρ hρ => ?_
  obtain ⟨v, h1, h2, h3, h4⟩ := binV_run hti hz (hρ x) (hρ y)
  refine ⟨v, ?_, h2⟩
  have hg : (eqGuard op T x y (ρ x) (ρ y)).run P w = .ok () w := by
    unfold eqGuard
    generalize ρ x = u at h3 h4
    cases u <;> first | (exact absurd rfl (h3 _)) | (exact absurd rfl h4) | (split <;> rfl)
  simp [execOp, ho, hg, h1]

theorem ok_un {op : UnOp} {T : TypeId} {x : Operand} {z : V} (ho : o.op = .unOp op T x) (hz : unV op (opnd t x) = some z) : OpS P o t n z 0 := by
  refine OpS.val fun base σ w ρ hρ => ?_
  have hx := hρ x
  generalize hv : ρ x = v at hx
  generalize opnd t x = X at hz hx
  unfold unV at hz
  split at hz
  · cases hx
    obtain rfl := Option.some.inj hz
    refine ⟨_, ?_, .bool _⟩
    simp [execOp, ho, hv, Op.unary]
  · cases hx
    obtain rfl := Option.some.inj hz
    refine ⟨_, ?_, .int _ _⟩
    simp [execOp, ho, hv, Op.unary, Op.intArith]
  · cases hz

theorem ok_extract {x : Operand} {i : Nat} {vs : List V} {z : V} (ho : o.op = .extract x i) (hx : opnd t x = .tup vs) (hz : vs[i]? = some z) : OpS P o t n z 0 := by
  refine OpS.val fun base σ w ρ hρ => ?_
  have hm := hρ x
  rw [hx] at hm
  generalize hv : ρ x = v at hm
  cases hm with
  | tup cs ws h1 h6 =>
    have hlt : i < ws.length := by have := (List.getElem?_eq_some_iff.1 hz).1; omega
    refine ⟨ws[i], ?_, h6 i z _ hz (List.getElem?_eq_getElem hlt)⟩
    simp [execOp, ho, hv, Instr.extract, hlt]

theorem ok_len {x : Operand} {T : TypeId} {z : V} (hti : TabOk P ti) (ho : o.op = .call ⟨.builtin .len, #[x], #[T]⟩) (hf : lenFits ti T (opnd t x) = true) (hz : lenV (opnd t x) = some z) : OpS P o t n z 0 := by
  refine OpS.val fun base σ w ρ hρ => ?_
  have hx := hρ x
  generalize hv : ρ x = v at hx
  generalize opnd t x = X at hz hx hf
  unfold lenFits at hf
  split at hf
  · rename_i s heq
    have hu := und_str (hti _ _ heq) rfl
    cases hx
    obtain rfl := Option.some.inj hz
    refine ⟨_, ?_, .int _ _⟩
    have hsz : (⟨s.toArray⟩ : ByteArray).size = s.length := by simp [ByteArray.size]
    simp [execOp, ho, resolve, invoke, builtin, hv, Builtin.len_, run_underlying hu, goInt, hsz]
  · rename_i e heq
    have hu := und_slice (hti _ _ heq) rfl
    cases hx
    obtain rfl := Option.some.inj hz
    refine ⟨_, ?_, .int _ _⟩
    simp [execOp, ho, resolve, invoke, builtin, hv, Builtin.len_, run_underlying hu, goInt]
  · rename_i e heq
    have hu := und_slice (hti _ _ heq) rfl
    cases hx
    obtain rfl := Option.some.inj hz
    refine ⟨_, ?_, .int _ _⟩
    simp [execOp, ho, resolve, invoke, builtin, hv, Builtin.len_, run_underlying hu, goInt]
  · cases hf

theorem ok_minmax {x y : Operand} {mx : Bool} {ts : Array TypeId} {z : V} (ho : o.op = .call ⟨.builtin (if mx then .max else .min), #[x, y], ts⟩) (hz : minV mx (opnd t x) (opnd t y) = some z) : OpS P o t n z 0 := by
  refine OpS.val fun base σ w ρ hρ => ?_
  have hx := hρ x
  have hy := hρ y
  generalize hu : ρ x = u at hx
  generalize hv : ρ y = v at hy
  generalize opnd t x = X at hz hx
  generalize opnd t y = Y at hz hy
  unfold minV at hz
  split at hz
  · cases hx; cases hy
    obtain rfl := Option.some.inj hz
    refine ⟨_, ?_, .int _ _⟩
    cases mx <;> simp [execOp, ho, resolve, invoke, builtin, hu, hv, Builtin.min_, Builtin.max_, Builtin.min2, Builtin.max2]
  · cases hx; cases hy
    obtain rfl := Option.some.inj hz
    refine ⟨_, ?_, .str _⟩
    cases mx <;> simp [execOp, ho, resolve, invoke, builtin, hu, hv, Builtin.min_, Builtin.max_, Builtin.min2, Builtin.max2, Op.stringOp, asBool, Bool.beq_eq_decide_eq] <;> split <;> simp_all
  · cases hz

theorem ok_makeFunc {f : FuncId} {first caps : Array Operand} (ho : o.op = .makeFunc (.func f) first caps) (hf : first.size = 0) : OpS P o t n (.fn f (caps.toList.map (opnd t))) 0 := by
  refine OpS.val fun base σ w ρ hρ => ⟨.func (.func f) #[] (caps.toList.map ρ).toArray, ?_, ?_⟩
  · have : first = #[] := Array.eq_empty_of_size_eq_zero hf
    subst this
    have hcaps : (caps.toList.map ρ).toArray = caps.map ρ := by apply Array.ext'; simp
    rw [hcaps]
    simp [execOp, ho, Instr.makeFunc]
  · refine .fn f _ _ (by simp) fun c x u hx hu => ?_
    rw [List.getElem?_map] at hx hu
    obtain ⟨q, hq, rfl⟩ := Option.map_eq_some_iff.1 hx
    rw [hq] at hu
    obtain rfl := Option.some.inj hu
    exact hρ q
end
end Go.Proofs.Ytjhfabimacljhaa.K
