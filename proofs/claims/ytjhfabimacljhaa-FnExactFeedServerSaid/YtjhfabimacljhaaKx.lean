/- More rules, as a walk uses them. Nothing here depends on the program. -/
import Derived.Test.YtjhfabimacljhaaKv
namespace Go.Proofs.Ytjhfabimacljhaa.K
open Go Go.RowKit
set_option linter.unusedVariables false
set_option linter.unusedSimpArgs false

section
variable {P : Program} {ti : Tab} {t t' h h' : List V} {n n' c : Nat} {Q : Exit → List V → List V → Nat → Prop} {ops : Array Oper} {o : Oper} {l : List Oper} {X : V}
theorem OkCall.enter' (hti : TabOk P ti) {f : FuncId} {fn : Func} {c : Code} {args : List V} {Q : V → List V → Nat → Prop} (hf : P.funcs[f]? = some fn) (hb : fn.body = some c)
    (ht : args ++ List.replicate (fn.ntmps - args.length) .any = t) (hk : Ok P c t h n (retQ ti fn Q)) : OkCall P f args h n Q := OkCall.enter hti hf hb (ht ▸ hk)
/-- A call that turns one element of one array. -/
theorem OkOps.upd {fx : Operand} {args : Array Operand} {ts : Array TypeId} {f : FuncId} {caps as : List V} {L j : Nat} {e' : List V} {x : V} (hg : o.guard = none) (ho : o.op = .call ⟨.value fx, args, ts⟩) (hf : opnd t fx = .fn f caps) (ha : args.toList.map (opnd t) ++ caps = as)
    (hcl : Callable P f) (hc : ∀ h, OkCall P f as h n fun r h1 n1 => r = x ∧ h1 = V.updL L j e' h ∧ n1 = n) (ht : putV (V.updL L j e' t) o.dst x = t') (hh : V.updL L j e' h = h') (hk : OkOps P ops l t' h' n Q) : OkOps P ops (o :: l) t h n Q := by
  refine OkOps.step hg (t' := t') (h' := h') (n' := n) ?_ hk
  rw [← ht, ← hh]
  refine OpOk.call ho hf hcl ?_ ?_
  · unfold V.updL; rw [travL_len]
  · rw [ha]
    refine (hc (t ++ h)).mono ?_
    rintro r h1 n1 ⟨rfl, rfl, rfl⟩
    exact ⟨rfl, by unfold V.updL; rw [travL_eq, travL_eq, travL_eq, List.map_append], rfl⟩
theorem OkOps.S0 (hg : o.guard = none) (hs : OpS P o t n X 0) (ht : putV t o.dst X = t') (hk : OkOps P ops l t' h n Q) : OkOps P ops (o :: l) t h n Q := OkOps.S hg hs ht hk
theorem SOps.S0 {Q : List V → Nat → Prop} (hg : o.guard = none) (hs : OpS P o (mask (o.looksAt ops) t) n X 0) (ht : putV t o.dst X = t') (hk : SOps P ops l t' n Q) : SOps P ops (o :: l) t n Q := SOps.S hg hs ht hk
theorem OkOps.S' (hg : o.guard = none) (hs : OpS P o t n X c) (hn : n + c = n') (ht : putV t o.dst X = t') (hk : OkOps P ops l t' h n' Q) : OkOps P ops (o :: l) t h n Q :=
  OkOps.S hg hs ht (hn ▸ hk)
theorem SOps.S' {Q : List V → Nat → Prop} (hg : o.guard = none) (hs : OpS P o (mask (o.looksAt ops) t) n X c) (hn : n + c = n') (ht : putV t o.dst X = t') (hk : SOps P ops l t' n' Q) : SOps P ops (o :: l) t n Q :=
  SOps.S hg hs ht (hn ▸ hk)
theorem TOps.S0 (hg : o.guard = none) (hs : OpS P o t n X 0) (ht : putV t o.dst X = t') (hk : TOps P ops [] Q l t' h n) : TOps P ops [] Q (o :: l) t h n :=
  TOps.ok h hg (ht ▸ hs.ok) hk
theorem TOps.S (hg : o.guard = none) (hs : OpS P o t n X c) (ht : putV t o.dst X = t') (hk : TOps P ops [] Q l t' h (n + c)) : TOps P ops [] Q (o :: l) t h n :=
  TOps.ok h hg (ht ▸ hs.ok) hk
theorem TOps.S' (hg : o.guard = none) (hs : OpS P o t n X c) (hn : n + c = n') (ht : putV t o.dst X = t') (hk : TOps P ops [] Q l t' h n') : TOps P ops [] Q (o :: l) t h n :=
  TOps.S hg hs ht (hn ▸ hk)
end

section
variable {P : Program} {t : List V} {ops : Array Oper} {o : Oper}
/-- A call that tells numbers and texts alone may look at the caller's own memory. -/
theorem OpS.weakE {fx : Operand} {args : Array Operand} {ts : Array TypeId} {f : FuncId} {caps as : List V} {x : V} {r : Nat} (ho : o.op = .call ⟨.value fx, args, ts⟩) (hf : opnd t fx = .fn f caps) (ha : V.eraseL (args.toList.map (opnd t) ++ caps) = as) (hcl : Callable P f) (hx : V.labels x = []) (hp : Weak P f as x) : OpS P o t r x 0 := by
  subst ha
  intro base σ w ρ hb h0 hσ hρ hr _
  obtain ⟨fn, hfn, hbody, hname⟩ := hcl
  have hm := hρ fx
  rw [hf] at hm
  obtain ⟨cs, hcs, hfv⟩ : ∃ cs : List Value, Ms base σ w caps cs ∧ ρ fx = .func (.func f) #[] cs.toArray := by
    generalize ρ fx = fv at hm
    cases hm with
    | fn _ _ vs h1 h6 => exact ⟨vs, ⟨h1, h6⟩, rfl⟩
  have hargs : Ms base σ w (args.toList.map (opnd t)) (args.toList.map ρ) := by
    refine ⟨by simp, fun i x u hx hu => ?_⟩
    rw [List.getElem?_map] at hx hu
    obtain ⟨q, hq, rfl⟩ := Option.map_eq_some_iff.1 hx
    rw [hq] at hu
    obtain rfl := Option.some.inj hu
    exact hρ q
  have hall := Ms.erase (base' := bare w.heap.size) (fun _ h => h) (hargs.append hcs)
  refine .inr ⟨f, (args.toList.map ρ ++ cs).toArray, ?_, ?_⟩
  · have hargs' : (#[] ++ args.map ρ ++ cs.toArray : Array Value) = (args.toList.map ρ ++ cs).toArray := by
      apply Array.ext'
      simp
    simp only [execOp, ho, resolve, hfv, Deferred.ofValue, Sem.run_bind, Sem.run_pure, Result.andThen_ok, invoke, callFunc, run_program, hfn, hname, hbody, Bool.false_eq_true, if_false, hargs']
  · refine (hp (bare w.heap.size) noSig w _ (fun _ h => h.elim) rfl (fun _ _ _ _ h => by simp [noSig] at h) hall).mono ?_
    rintro e w' ⟨v, rfl, hm', bel⟩
    refine ⟨v, rfl, σ, bel, fun _ _ => rfl, fun L _ _ _ h1 h2 => by omega, fun _ _ _ _ _ _ _ h1 h2 => by omega, ?_⟩
    exact hm'.as fun L hL => by rw [hx] at hL; cases hL
theorem OpS.weakEM {fx : Operand} {args : Array Operand} {ts : Array TypeId} {f : FuncId} {caps as : List V} {x : V} {r : Nat} (ho : o.op = .call ⟨.value fx, args, ts⟩) (hf : opnd t fx = .fn f caps) (ha : V.eraseL (args.toList.map (opnd t) ++ caps) = as) (hcl : Callable P f) (hx : V.labels x = []) (hp : Weak P f as x) : OpS P o (mask (o.looksAt ops) t) r x 0 :=
  OpS.weakE ho ((callMask ho).1.trans hf) (by rw [(callMask ho).2]; exact ha) hcl hx hp
end
/-- Slots laid over a frame. -/
def overW : List (Nat × V) → List V → List V
  | [], t => t
  | (d, x) :: l, t => overW l (setN t d x)
def overD : List Nat → List V → List V
  | [], t => t
  | d :: l, t => overD l (setN t d .any)
theorem kover : (∀ (t : List V), overW [] t = t) ∧ (∀ (d : Nat) (x : V) (l : List (Nat × V)) (t : List V), overW ((d, x) :: l) t = overW l (setN t d x)) ∧ (∀ (t : List V), overD [] t = t) ∧ (∀ (d : Nat) (l : List Nat) (t : List V), overD (d :: l) t = overD l (setN t d .any)) ∧
    (∀ (y : V) (l : List V) (x : V), setN (y :: l) 0 x = x :: l) ∧ (∀ (y : V) (l : List V) (i : Nat) (x : V), setN (y :: l) (i + 1) x = y :: setN l i x) :=
  ⟨fun _ => rfl, fun _ _ _ _ => rfl, fun _ => rfl, fun _ _ _ => rfl, kput_2, kput_3⟩
section
variable {P : Program} {t h : List V} {n : Nat} {Q : Exit → List V → List V → Nat → Prop}
theorem Ok.loopW {τ : Type} {c : Code} {F : τ → List V} (W : τ → List (Nat × V)) (dead : List Nat) (hF : ∀ x, overW (W x) (overD dead t) = F x) (p : τ → Prop) (m : τ → Nat) (x : τ) (hle : leL t (F x)) (hp : p x)
    (round : ∀ x, p x → Ok P c (F x) h n (thenQ (fun t' h' n' => ∃ y, leL t' (F y) ∧ h' = h ∧ n' = n ∧ p y ∧ m y < m x) Q)) : Ok P (.loop c) t h n Q := Ok.loopF F p m x hle hp round
theorem Ok.loopWZ {τ : Type} {c : Code} {F : τ → List V} (W : τ → List (Nat × V)) (dead : List Nat) (hF : ∀ x, overW (W x) (overD dead t) = F x) (p : τ → Prop) (m : τ → Nat) (x : τ) (hn : 1 ≤ n) (hle : leL t (F x)) (hp : p x)
    (round : ∀ x, p x → Ok P c (F x) h n (thenQ (fun t' h' _ => ∃ y, leL (V.renL (frz n) t') (F y) ∧ V.renL (frz n) h' = h ∧ p y ∧ m y < m x) Q)) : Ok P (.loop c) t h n Q := Ok.loopZ F p m x hn hle hp round
/-- A loop in which the callers' values turn too. -/
theorem Ok.loopH {τ : Type} {c : Code} {F : τ → List V} (W : τ → List (Nat × V)) (dead : List Nat) (hF : ∀ x, overW (W x) (overD dead t) = F x) (H : τ → List V) (p : τ → Prop) (m : τ → Nat) (x : τ) (hle : leL t (F x)) (hH : h = H x) (hp : p x)
    (round : ∀ x, p x → Ok P c (F x) (H x) n (thenQ (fun t' h' n' => ∃ y, leL t' (F y) ∧ h' = H y ∧ n' = n ∧ p y ∧ m y < m x) Q)) : Ok P (.loop c) t h n Q := by
  refine Ok.loop (fun x t' h' n' => leL t' (F x) ∧ h' = H x ∧ n' = n ∧ p x) m x ⟨hle, hH, rfl, hp⟩ ?_
  rintro x t' h' n' ⟨h1, rfl, rfl, h4⟩
  refine Ok.forget (leL_spec h1).1 (leL_spec h1).2 ((round x h4).mono ?_)
  intro e t2 h2 n2 hq
  cases e with
  | normal => obtain ⟨y, a, b, c, d, e⟩ := hq; exact ⟨y, ⟨a, b, c, d⟩, e⟩
  | exit id => exact hq
  | goto l => exact hq
  | ret => exact hq
  | panic ch => exact hq
  | outgrown => exact hq
end

section
variable {ti : Tab} {t : List V} {n : Nat}
theorem ev_idx_map {α : Type} {f : α → List V} {xs : List α} {ty T : TypeId} {x ix : Operand} {L sz off j : Nat} {k : IntKind} (hx : opnd t x = .sl L sz off (xs.map f)) (hi : opnd t ix = .int k (j : Int)) (hj : j < xs.length) (hz : esz ti T = some (f xs[j]).length) :
    ev1 ti t n ty (.indexAddr T x ix) = some (.ptr L (off + j) 0 (f xs[j]), n) :=
  ev_idx hx hi (by rw [List.getElem?_map, List.getElem?_eq_getElem hj]; rfl) hz
theorem ev_cat {ty T T' : TypeId} {x y : Operand} {a b : List UInt8} (hx : opnd t x = .str a) (hy : opnd t y = .str b) (hl : a.length + b.length ≤ 9223372036854775807) : ev1 ti t n ty (.binOp .add T x y T') = some (.str (a ++ b), n) := by
  simp only [ev1, hx, hy, binV, strBin, if_pos hl, Option.map_some]
theorem ev_bs {ty T e : TypeId} {len : Nat} {parts : Array (Nat × Operand)} {s1 b1 sz b : Nat} {z1 z : List V} {k : Kind} {ps : List (Nat × V)} {es : List (List V)} (hT : ti T = some ⟨.slice e, s1, b1, z1⟩) (he : ti e = some ⟨k, sz, b, z⟩) (hl : len ≠ 0)
    (h1 : len * sz ≤ 16777216 ∧ 0 < sz ∧ z.length = sz) (hp : (parts.toList.map fun p => (p.1, opnd t p.2)) = ps) (hf : fillE sz (List.replicate len z) ps = some es) : ev1 ti t n ty (.buildSlice T len parts) = some (.sl n sz 0 es, n + 1) := by
  simp only [ev1, hT, he, if_neg hl, if_pos h1, hp, hf, Option.map_some]
def convW (ti : Tab) (i j : Option TInfo) (x : V) : Option V :=
  match i, j, x with
  | some _, some ⟨.int k, _, _, _⟩, .int _ n => some (.int k (k.wrap n))
  | some ⟨.str, _, _, _⟩, some ⟨.str, _, _, _⟩, .str s => some (.str s)
  | some ⟨.slice e, _, _, _⟩, some ⟨.str, _, _, _⟩, .sl _ _ _ es => (ti e).bind fun i => match i.kind with | .int .u8 => (bytesV es).map .str | _ => none
  | some ⟨.slice e, _, _, _⟩, some ⟨.str, _, _, _⟩, .nil _ => (ti e).bind fun i => match i.kind with | .int .u8 => some (.str []) | _ => none
  | _, _, _ => none
theorem kcv : (∀ (ti : Tab) (s d : TypeId) (x : V), convV ti s d x = convW ti (ti s) (ti d) x) ∧ (∀ (ti : Tab) (i : TInfo) (k k' : IntKind) (a b : Nat) (z : List V) (n : Int), convW ti (some i) (some ⟨.int k, a, b, z⟩) (.int k' n) = some (.int k (k.wrap n))) ∧ (∀ (α β : Type) (f : α → β) (x : α), (some x).map f = some (f x)) :=
  ⟨fun _ _ _ _ => rfl, fun _ _ _ _ _ _ _ _ => rfl, fun _ _ _ _ => rfl⟩
theorem kfe : (∀ (sz : Nat) (es : List (List V)), fillE sz es [] = some es) ∧ (∀ (sz : Nat) (es : List (List V)) (i : Nat) (x : V) (r : List (Nat × V)), fillE sz es ((i, x) :: r) = if x.known && (cellsV x).length == sz && decide (i < es.length) then fillE sz (es.set i (cellsV x)) r else none) ∧
    (∀ k m, (V.int k m).known = true) ∧ (∀ s, (V.str s).known = true) ∧ (∀ b, (V.bool b).known = true) ∧ (∀ c, (V.agg c).known = true) ∧ (∀ a b c d, (V.sl a b c d).known = true) ∧ (∀ a, (V.nil a).known = true) ∧
    (∀ k m, cellsV (V.int k m) = [.int k m]) ∧ (∀ s, cellsV (V.str s) = [.str s]) ∧ (∀ b, cellsV (V.bool b) = [.bool b]) ∧ (∀ c, cellsV (V.agg c) = c) ∧ (∀ a b c d, cellsV (V.sl a b c d) = [.sl a b c d]) ∧ (∀ a, cellsV (V.nil a) = [.nil a]) ∧
    (∀ (n : Nat) (z : List V), List.replicate (n + 1) z = z :: List.replicate n z) ∧ (∀ z : List V, List.replicate 0 z = []) ∧ (∀ (x y : List V) (l : List (List V)), (x :: l).set 0 y = y :: l) ∧ (∀ (x y : List V) (l : List (List V)) (i : Nat), (x :: l).set (i + 1) y = x :: l.set i y) ∧ (∀ (x : List V) (l : List (List V)), (x :: l).length = l.length + 1) ∧ ([] : List (List V)).length = 0 ∧
    (∀ (x : V) (l : List V), (x :: l).length = l.length + 1) ∧ ([] : List V).length = 0 :=
  ⟨fun _ _ => rfl, fun _ _ _ _ _ => rfl, fun _ _ => rfl, fun _ => rfl, fun _ => rfl, fun _ => rfl, fun _ _ _ _ => rfl, fun _ => rfl, fun _ _ => rfl, fun _ => rfl, fun _ => rfl, fun _ => rfl, fun _ _ _ _ => rfl, fun _ => rfl, fun _ _ => rfl, fun _ => rfl, fun _ _ _ => rfl, fun _ _ _ _ => rfl, fun _ _ => rfl, rfl, fun _ _ => rfl, rfl⟩
abbrev cB (b : UInt8) : List V := [.int .u8 (b.toNat : Int)]
theorem bytesV_map (xs : List UInt8) : bytesV (xs.map cB) = some xs := by
  induction xs with
  | nil => rfl
  | cons x xs ih => simp only [List.map_cons, bytesV, ih, Option.map_some, Int.toNat_natCast, UInt8.ofNat_toNat]
end
end Go.Proofs.Ytjhfabimacljhaa.K
