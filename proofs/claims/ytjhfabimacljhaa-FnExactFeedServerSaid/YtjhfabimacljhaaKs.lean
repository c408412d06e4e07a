/- The rules as a walk uses them, and the evaluator's equations in one. Nothing here depends on the program. -/
import Derived.Test.YtjhfabimacljhaaKr
namespace Go.Proofs.Ytjhfabimacljhaa.K
open Go Go.RowKit
set_option linter.unusedVariables false
set_option linter.unusedSimpArgs false

section
variable {P : Program} {ti : Tab} {t t' h h' : List V} {n n' c : Nat} {Q : Exit → List V → List V → Nat → Prop} {ops : Array Oper} {o : Oper} {l : List Oper} {X : V}
theorem OkOps.ev (hti : TabOk P ti) (hg : o.guard = none) (he : ev1 ti t n o.type o.op = some (X, n')) (ht : putV t o.dst X = t') (hk : OkOps P ops l t' h n' Q) : OkOps P ops (o :: l) t h n Q :=
  OkOps.step hg (ht ▸ ev1_ok hti rfl he) hk
theorem OkOps.S (hg : o.guard = none) (hs : OpS P o t n X c) (ht : putV t o.dst X = t') (hk : OkOps P ops l t' h (n + c) Q) : OkOps P ops (o :: l) t h n Q :=
  OkOps.step hg (ht ▸ hs.ok) hk
theorem OkOps.store {T : TypeId} {i : TInfo} {p x : Operand} {L j : Nat} {e' : List V} (hti : TabOk P ti) (hg : o.guard = none) (ho : o.op = .store T p x) (hi : ti T = some i) (hs : storeV i (opnd t p) (opnd t x) = some (L, j, e')) (hfree : L ∉ V.labelsL e')
    (ht : putV (V.updL L j e' t) o.dst .any = t') (hh : V.updL L j e' h = h') (hk : OkOps P ops l t' h' n Q) : OkOps P ops (o :: l) t h n Q :=
  OkOps.step hg (ht ▸ hh ▸ ok_store (hti _ _ hi) ho hs hfree) hk
theorem OkOps.append {T e : TypeId} {i : TInfo} {s x : Operand} {L off : Nat} {es es2 es3 : List (List V)} {s1 b1 : Nat} {z1 : List V} (hti : TabOk P ti) (hg : o.guard = none) (ho : o.op = .call ⟨.builtin .append, #[s, x], #[T, T]⟩) (hT : ti T = some ⟨.slice e, s1, b1, z1⟩) (he : ti e = some i)
    (hi : 0 < i.size) (hz : i.zero.length = i.size) (hs : opnd t s = .sl L i.size off es) (hx : (∃ L2 off2, opnd t x = .sl L2 i.size off2 es2) ∨ (es2 = [] ∧ ∃ q, opnd t x = .nil q)) (hL : L ≠ 0) (hLn : L < n)
    (hb : (es.length + es2.length) * i.bytes ≤ 140737488355328) (hb2 : es.length + es2.length ≤ 9223372036854775807) (hone : ∀ e ∈ es2, ∀ y ∈ e, V.one y = true) (he3 : V.killLL L (es ++ es2) = es3) (ht : putV (V.killL L t) o.dst (.sl L i.size 0 es3) = t') (hh : V.killL L h = h')
    (hk : OkOps P ops l t' h' n Q) : OkOps P ops (o :: l) t h n Q :=
  OkOps.step hg (ht ▸ hh ▸ he3 ▸ ok_append hti hT he hi hz ho hs hx hL hLn hb hb2 hone) hk
theorem OkOps.on {j d : Nat} {want : Bool} (hg : o.guard = some (j, want)) (hd : (ops[j]?).bind (·.dst) = some d) (hb : nth t d = .bool want) (hk : OkOps P ops ({ o with guard := none } :: l) t h n Q) : OkOps P ops (o :: l) t h n Q := by
  intro base w0 hv σ a w g
  have hy := yielded_of (ops := ops) g.ts hd hb
  have hw : Region.wanted o (yielded ops a.tmps) = true := by simp [Region.wanted, hg, hy]
  have := hk base w0 hv σ a w g
  unfold wpList at this ⊢
  rw [if_pos (wanted_none rfl _)] at this
  rw [if_pos hw]
  exact this
theorem OkOps.off {j d : Nat} {want : Bool} (hg : o.guard = some (j, want)) (hd : (ops[j]?).bind (·.dst) = some d) (hb : nth t d = .bool (!want)) (ht : putV t o.dst .any = t') (hk : OkOps P ops l t' h n Q) : OkOps P ops (o :: l) t h n Q := by
  subst ht
  intro base w0 hv σ a w g
  have hy := yielded_of (ops := ops) g.ts hd hb
  have hw : Region.wanted o (yielded ops a.tmps) = false := by cases want <;> simp [Region.wanted, hg, hy]
  unfold wpList
  rw [hw]
  exact hk base w0 hv σ _ w ⟨g.ts.put _ (.any _), g.hs, by cases o.dst <;> exact g.dfr, g.bel, g.inv⟩

theorem OkOps.offU {j d : Nat} {want : Bool} (hg : o.guard = some (j, want)) (hd : (ops[j]?).bind (·.dst) = some d) (hb : nth t d = .bool (!want) ∨ nth t d = .tup []) (ht : putV t o.dst (.tup []) = t') (hk : OkOps P ops l t' h n Q) : OkOps P ops (o :: l) t h n Q := by
  subst ht
  intro base w0 hv σ a w g
  have hw : Region.wanted o (yielded ops a.tmps) = false := by
    rcases hb with hb | hb
    · have hy := yielded_of (ops := ops) g.ts hd hb
      cases want <;> simp [Region.wanted, hg, hy]
    · have hy := yielded_un (ops := ops) g.ts hd hb
      cases want <;> simp [Region.wanted, hg, hy]
  unfold wpList
  rw [hw]
  exact hk base w0 hv σ _ w ⟨g.ts.put _ undef_M, g.hs, by cases o.dst <;> exact g.dfr, g.bel, g.inv⟩

theorem opnd_congr {x : Operand} (h : ∀ d, x = .tmp d → nth t d = nth t' d) : opnd t x = opnd t' x := by
  cases x with
  | tmp d => exact h d rfl
  | _ => rfl
theorem opnd_mask {x : Operand} (hx : x ∈ o.op.operands.toList) : opnd (mask (o.looksAt ops) t) x = opnd t x := by
  refine opnd_congr fun d hd => ?_
  unfold mask
  rw [maskP_nth, if_pos]
  have : d ∈ o.looksAt ops := List.mem_append_left _ (List.mem_filterMap.2 ⟨x, hx, by rw [hd]⟩)
  simpa using this
theorem ev1_congr (op : Op) (ty : TypeId) (h : ∀ x ∈ op.operands.toList, opnd t x = opnd t' x) : ev1 ti t n ty op = ev1 ti t' n ty op := by
  have pairs : ∀ ps : Array (Nat × Operand), (∀ x ∈ ps.toList.map (·.2), opnd t x = opnd t' x) → (ps.toList.map fun p => (p.1, opnd t p.2)) = (ps.toList.map fun p => (p.1, opnd t' p.2)) := fun ps hp =>
    List.map_congr_left fun p hm => by rw [hp p.2 (List.mem_map.2 ⟨p, hm, rfl⟩)]
  cases op <;> simp only [Op.operands] at h <;> simp only [ev1]
  case build T ps => rw [pairs ps fun x hx => h x (by simpa using hx)]
  case buildSlice T k ps => rw [pairs ps fun x hx => h x (by simpa using hx)]
  case makeFunc fn first caps =>
    cases fn <;> simp only
    rw [List.map_congr_left fun x hx => h x (by simp; exact .inr (by simpa using hx))]
  case call c =>
    obtain ⟨callee, args, tys⟩ := c
    cases callee <;> simp only [bltV]
    have hl : ∀ x ∈ args.toList, opnd t x = opnd t' x := fun x hx => h x (by simp [Call.operands]; simpa using hx)
    rename_i b
    congr 1
    split
    · rename_i x T h1 h2
      rw [hl x (by rw [h1]; simp)]
    · rename_i x y h1
      rw [hl x (by rw [h1]; simp), hl y (by rw [h1]; simp)]
    · rename_i x y h1
      rw [hl x (by rw [h1]; simp), hl y (by rw [h1]; simp)]
    · rfl
  case slice T x lo hi mx =>
    cases mx <;> cases lo <;> cases hi <;> simp_all
  all_goals first | rfl | (simp_all; done)

theorem SOps.S {Q : List V → Nat → Prop} (hg : o.guard = none) (hs : OpS P o (mask (o.looksAt ops) t) n X c) (ht : putV t o.dst X = t') (hk : SOps P ops l t' (n + c) Q) : SOps P ops (o :: l) t n Q :=
  ⟨X, c, .inl ⟨hg, hs⟩, by rw [ht]; exact hk⟩
theorem SOps.ev {Q : List V → Nat → Prop} (hti : TabOk P ti) (hg : o.guard = none) (he : ev1 ti t n o.type o.op = some (X, n')) (ht : putV t o.dst X = t') (hk : SOps P ops l t' n' Q) : SOps P ops (o :: l) t n Q := by
  rw [ev1_congr (t' := mask (o.looksAt ops) t) o.op o.type fun x hx => (opnd_mask hx).symm] at he
  obtain ⟨c, rfl, hs⟩ := ev1_S hti rfl he
  exact SOps.S hg hs ht hk
theorem SOps.off {Q : List V → Nat → Prop} {j d : Nat} {want : Bool} (hg : o.guard = some (j, want)) (hd : (ops[j]?).bind (·.dst) = some d) (hb : nth t d = .bool (!want)) (ht : putV t o.dst .any = t') (hk : SOps P ops l t' n Q) : SOps P ops (o :: l) t n Q :=
  ⟨.any, 0, .inr ⟨j, d, want, hg, hd, .inr ⟨.inl hb, .inl rfl, rfl⟩⟩, by rw [ht]; exact hk⟩
theorem SOps.offU {Q : List V → Nat → Prop} {j d : Nat} {want : Bool} (hg : o.guard = some (j, want)) (hd : (ops[j]?).bind (·.dst) = some d) (hb : nth t d = .bool (!want) ∨ nth t d = .tup []) (ht : putV t o.dst (.tup []) = t') (hk : SOps P ops l t' n Q) : SOps P ops (o :: l) t n Q :=
  ⟨.tup [], 0, .inr ⟨j, d, want, hg, hd, .inr ⟨hb, .inr rfl, rfl⟩⟩, by rw [ht]; exact hk⟩
theorem SOps.nil {Q : List V → Nat → Prop} (h : Q t n) : SOps P ops [] t n Q := h

/-- A call of a weak function, its arguments read off the frame. -/
theorem OpS.weak' {fx : Operand} {args : Array Operand} {ts : Array TypeId} {f : FuncId} {caps as : List V} {x : V} {r : Nat} (ho : o.op = .call ⟨.value fx, args, ts⟩) (hf : opnd t fx = .fn f caps) (ha : args.toList.map (opnd t) ++ caps = as) (hcl : Callable P f) (hp : Weak P f as x) : OpS P o t r x 0 :=
  OpS.weak ho hf hcl (ha ▸ hp)
theorem OpS.pure' {fx : Operand} {args : Array Operand} {ts : Array TypeId} {f : FuncId} {caps as : List V} {x : V} {r : Nat} (ho : o.op = .call ⟨.value fx, args, ts⟩) (hf : opnd t fx = .fn f caps) (ha : V.eraseL (args.toList.map (opnd t) ++ caps) = as) (hcl : Callable P f) (hd : V.dat x = true) (hp : Pure P f as x) : OpS P o t r (V.tag r x) (V.cnt x) :=
  OpS.pure ho hf hcl hd (ha ▸ hp)
theorem callMask {fx : Operand} {args : Array Operand} {ts : Array TypeId} (ho : o.op = .call ⟨.value fx, args, ts⟩) : opnd (mask (o.looksAt ops) t) fx = opnd t fx ∧ args.toList.map (opnd (mask (o.looksAt ops) t)) = args.toList.map (opnd t) := by
  refine ⟨opnd_mask ?_, List.map_congr_left fun x hx => opnd_mask ?_⟩
  · rw [ho]; simp [Op.operands, Call.operands]
  · rw [ho]; simp [Op.operands, Call.operands]; exact .inr (by simpa using hx)
theorem OpS.weakM {fx : Operand} {args : Array Operand} {ts : Array TypeId} {f : FuncId} {caps as : List V} {x : V} {r : Nat} (ho : o.op = .call ⟨.value fx, args, ts⟩) (hf : opnd t fx = .fn f caps) (ha : args.toList.map (opnd t) ++ caps = as) (hcl : Callable P f) (hp : Weak P f as x) : OpS P o (mask (o.looksAt ops) t) r x 0 :=
  OpS.weak ho ((callMask ho).1.trans hf) hcl (by rw [(callMask ho).2]; exact ha ▸ hp)
theorem OpS.pureM {fx : Operand} {args : Array Operand} {ts : Array TypeId} {f : FuncId} {caps as : List V} {x : V} {r : Nat} (ho : o.op = .call ⟨.value fx, args, ts⟩) (hf : opnd t fx = .fn f caps) (ha : V.eraseL (args.toList.map (opnd t) ++ caps) = as) (hcl : Callable P f) (hd : V.dat x = true) (hp : Pure P f as x) : OpS P o (mask (o.looksAt ops) t) r (V.tag r x) (V.cnt x) :=
  OpS.pure ho ((callMask ho).1.trans hf) hcl hd (by rw [(callMask ho).2]; exact ha ▸ hp)

/-- The tail of a region that draws its order. -/
theorem TOps.nil {late : List Nat} (h1 : Q .normal t h n) : TOps P ops late Q [] t h n := h1
theorem TOps.ok (h' : List V) (hg : o.guard = none) (hop : OpOk P o t h n t' h' n') (hk : TOps P ops [] Q l t' h' n') : TOps P ops [] Q (o :: l) t h n :=
  ⟨t', h', n', hg, .inl ⟨rfl, hop⟩, by simp, hk⟩
theorem TOps.ev (hti : TabOk P ti) (hg : o.guard = none) (he : ev1 ti t n o.type o.op = some (X, n')) (ht : putV t o.dst X = t') (hk : TOps P ops [] Q l t' h n') : TOps P ops [] Q (o :: l) t h n :=
  TOps.ok h hg (ht ▸ ev1_ok hti rfl he) hk
theorem TOps.store {T : TypeId} {i : TInfo} {p x : Operand} {L j : Nat} {e' : List V} (hti : TabOk P ti) (hg : o.guard = none) (ho : o.op = .store T p x) (hi : ti T = some i) (hs : storeV i (opnd t p) (opnd t x) = some (L, j, e')) (hfree : L ∉ V.labelsL e')
    (ht : putV (V.updL L j e' t) o.dst .any = t') (hh : V.updL L j e' h = h') (hk : TOps P ops [] Q l t' h' n) : TOps P ops [] Q (o :: l) t h n :=
  TOps.ok h' hg (ht ▸ hh ▸ ok_store (hti _ _ hi) ho hs hfree) hk
end
end Go.Proofs.Ytjhfabimacljhaa.K
