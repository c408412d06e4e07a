/- Calls that turn memory of the callers' own. Nothing here depends on the program. -/
import Derived.Test.YtjhfabimacljhaaDoorG1
namespace Go.Proofs.YtjhfabimacljhaaDoor.K
open Go Go.RowKit
set_option linter.unusedVariables false
set_option linter.unusedSimpArgs false
section
variable {P : Program} {ti : Tab} {t t' h h' : List V} {n n' c : Nat} {Q : Exit → List V → List V → Nat → Prop} {ops : Array Oper} {o : Oper} {l : List Oper} {X : V}
theorem OkOps.turn {fx : Operand} {args : Array Operand} {ts : Array TypeId} {f : FuncId} {caps ags : List V} {U : V → V} {x : V} (c : Nat) (hg : o.guard = none) (ho : o.op = .call ⟨.value fx, args, ts⟩) (hf : opnd t fx = .fn f caps) (ha : args.toList.map (opnd t) ++ caps = ags)
    (hcl : Callable P f) (hc : ∀ h, OkCall P f ags h n fun r h1 n1 => r = x ∧ h1 = h.map U ∧ n1 = n + c) (hn : n + c = n') (ht : putV (t.map U) o.dst x = t') (hh : h.map U = h') (hk : OkOps P ops l t' h' n' Q) : OkOps P ops (o :: l) t h n Q := by
  refine OkOps.step hg (t' := t') (h' := h') (n' := n') ?_ hk
  rw [← ht, ← hh]
  refine OpOk.call ho hf hcl (by rw [List.length_map]) ?_
  rw [ha]
  refine (hc (t ++ h)).mono ?_
  rintro r h1 n1 ⟨rfl, rfl, rfl⟩
  exact ⟨rfl, by rw [List.map_append], hn⟩
end
def updA (L : Nat) : Nat → List (List V) → V → V
  | _, [], x => x
  | j, e :: es, x => updA L (j + 1) es (V.upd L j e x)
section
variable (L : Nat)
end
abbrev fillA (L : Nat) (es : List (List V)) : V → V := updA L 0 es
section
variable {L j : Nat} {e1 e2 : List V}
end
section
variable {P : Program} {ti : Tab} {t t' h h' : List V} {n n' : Nat} {Q : Exit → List V → List V → Nat → Prop} {ops : Array Oper} {o : Oper} {l : List Oper} {X : V} {late : List Nat}
theorem maskP_map (f : Nat → Bool) (g : V → V) (hg : g .any = .any) : ∀ (l : List V) (i : Nat), maskP f i (l.map g) = (maskP f i l).map g := by
  intro l i
  refine List.ext_getElem? fun j => ?_
  rw [maskP_get, List.getElem?_map, List.getElem?_map, maskP_get]
  cases l[j]? with
  | none => rfl
  | some x =>
    simp only [Option.map_some]
    split
    · rfl
    · rw [hg]
theorem opnd_maskP {f : Nat → Bool} {x : Operand} (hx : x ∈ o.op.operands.toList) (hf : ∀ d ∈ o.looksAt ops, f d = true) : opnd (maskP f 0 t) x = opnd t x := by
  cases x with
  | tmp d =>
    have hd : d ∈ o.looksAt ops := by
      unfold Oper.looksAt
      refine List.mem_append_left _ ?_
      exact List.mem_filterMap.2 ⟨.tmp d, hx, rfl⟩
    show nth (maskP f 0 t) d = nth t d
    rw [maskP_nth, if_pos (hf d hd)]
  | const v => rfl
  | func f => rfl
  | global g => rfl
theorem OpT.ev (hti : TabOk P ti) (he : ev1 ti t n o.type o.op = some (X, n')) : OpT P ops o t h n (putV t o.dst X) h n' := by
  intro f hf hd
  rw [← maskP_put (f := f) hd]
  refine ev1_ok hti rfl ?_
  rw [ev1_congr (t' := t) o.op o.type fun x hx => opnd_maskP hx hf]
  exact he
theorem OpT.store {T : TypeId} {p x : Operand} {L j : Nat} {e' : List V} (hti : TabOk P ti) (hdst : o.dst = none) (ho : o.op = .store T p x) (hs : storeE (ti T) (opnd t p) (opnd t x) = some (L, j, e')) (hc : ∃ y l, cellsV (opnd t x) = y :: l) (hfree : L ∉ V.labelsL e') : OpT P ops o t h n (V.updL L j e' t) (V.updL L j e' h) n := by
  obtain ⟨i, hi, hs'⟩ := storeE_ok hs hc
  intro f hf hd
  have e1 : opnd (maskP f 0 t) p = opnd t p := opnd_maskP (by rw [ho]; simp [Op.operands]) hf
  have e2 : opnd (maskP f 0 t) x = opnd t x := opnd_maskP (by rw [ho]; simp [Op.operands]) hf
  have := ok_store (h := h) (n := n) (t := maskP f 0 t) (hti _ _ hi) ho (by rw [e1, e2]; exact hs') hfree
  rw [hdst] at this
  have e3 : maskP f 0 (V.updL L j e' t) = V.updL L j e' (maskP f 0 t) := by
    unfold V.updL
    rw [travL_eq, travL_eq]
    exact maskP_map f _ rfl t 0
  rw [e3]
  exact this
def LateOk (P : Program) (ops : Array Oper) (t' : List V) (late : List Nat) : Prop := ∀ i ∈ late, ∀ o, ops[i]? = some o → ∃ X, (o.dst = none ∨ slot t' o = X) ∧ StepS P ops o t' 1 X 0
theorem LateOk.nil : LateOk P ops t' [] := fun i hi => by cases hi
theorem LateOk.cons {i : Nat} {o : Oper} {X : V} (hti : TabOk P ti) (hi : ops[i]? = some o) (hg : o.guard = none) (he : ev1 ti t' 1 o.type o.op = some (X, 1)) (hs : slot t' o = X) (hk : LateOk P ops t' late) : LateOk P ops t' (i :: late) := by
  intro j hj o' ho'
  rcases List.mem_cons.1 hj with rfl | hj
  · rw [hi] at ho'
    obtain rfl := Option.some.inj ho'
    rw [ev1_congr (t' := mask (o.looksAt ops) t') o.op o.type fun x hx => (opnd_mask hx).symm] at he
    obtain ⟨c, hc, hs'⟩ := ev1_S hti rfl he
    obtain rfl : c = 0 := by omega
    exact ⟨X, .inr hs, .inl ⟨hg, hs'⟩⟩
  · exact hk j hj o' ho'
end
end Go.Proofs.YtjhfabimacljhaaDoor.K
