/- Entering, ending: as a walk uses them. -/
import Derived.Test.YtjhfabimacljhaaKu
namespace Go.Proofs.Ytjhfabimacljhaa.K
open Go Go.RowKit
set_option linter.unusedVariables false
set_option linter.unusedSimpArgs false

section
variable {P : Program} {ti : Tab} {t t' h : List V} {n : Nat} {Q : Exit → List V → List V → Nat → Prop} {ops : Array Oper}
theorem OkOps.done {y : Code} (hk : Ok P y t h n Q) : OkOps P ops [] t h n (thenQ (fun t h n => Ok P y t h n Q) Q) := OkOps.nil hk
theorem TOps.done {y : Code} {late : List Nat} (hk : Ok P y t h n Q) : TOps P ops late (thenQ (fun t h n => Ok P y t h n Q) Q) [] t h n := hk
theorem thenQ_ret {K : List V → List V → Nat → Prop} (hq : Q .ret t h n) : thenQ K Q .ret t h n := hq
theorem blockQ_ret {id : Nat} (hq : Q .ret t h n) : blockQ id Q .ret t h n := hq
/-- A function that looks at what nobody writes. -/
theorem Weak.enter (hti : TabOk P ti) {f : FuncId} {fn : Func} {c : Code} {args t : List V} {r : V} (hf : P.funcs[f]? = some fn) (hb : fn.body = some c) (hz : V.labelsL args = [] ∨ ∀ L ∈ V.labelsL args, L = 0)
    (ht : args ++ List.replicate (fn.ntmps - args.length) .any = t) (hk : Ok P c t [] 1 (retQ ti fn fun x _ _ => V.erase x = r)) : Weak P f args r :=
  Weak.of (hz.elim (fun h => by rw [h]; simp) id) (OkCall.enter hti hf hb (ht ▸ hk))
theorem retQ.end {ti : Tab} {fn : Func} {Q : V → List V → Nat → Prop} {xs : List V} {x : V} (hx : resVs ti t fn.results.toList = some xs) (hp : packV xs = x) (hq : Q x h n) : retQ ti fn Q .ret t h n := ⟨.inr rfl, xs, hx, hp ▸ hq⟩
variable {h' : List V} {n' : Nat} {o : Oper} {l : List Oper}
theorem OkOps.storeE {T : TypeId} {p x : Operand} {L j : Nat} {e' : List V} (hti : TabOk P ti) (hg : o.guard = none) (ho : o.op = .store T p x) (hs : storeE (ti T) (opnd t p) (opnd t x) = some (L, j, e')) (hc : ∃ y l, cellsV (opnd t x) = y :: l) (hfree : L ∉ V.labelsL e')
    (ht : putV (V.updL L j e' t) o.dst .any = t') (hh : V.updL L j e' h = h') (hk : OkOps P ops l t' h' n Q) : OkOps P ops (o :: l) t h n Q := by
  obtain ⟨i, hi, hs'⟩ := storeE_ok hs hc
  exact OkOps.store hti hg ho hi hs' hfree ht hh hk
theorem TOps.storeE {T : TypeId} {p x : Operand} {L j : Nat} {e' : List V} (hti : TabOk P ti) (hg : o.guard = none) (ho : o.op = .store T p x) (hs : storeE (ti T) (opnd t p) (opnd t x) = some (L, j, e')) (hc : ∃ y l, cellsV (opnd t x) = y :: l) (hfree : L ∉ V.labelsL e')
    (ht : putV (V.updL L j e' t) o.dst .any = t') (hh : V.updL L j e' h = h') (hk : TOps P ops [] Q l t' h' n) : TOps P ops [] Q (o :: l) t h n := by
  obtain ⟨i, hi, hs'⟩ := storeE_ok hs hc
  exact TOps.store hti hg ho hi hs' hfree ht hh hk
theorem ev_idx {ty T : TypeId} {x ix : Operand} {L sz off j : Nat} {k : IntKind} {es : List (List V)} {e : List V} (hx : opnd t x = .sl L sz off es) (hi : opnd t ix = .int k (j : Int)) (he : es[j]? = some e) (hz : esz ti T = some e.length) :
    ev1 ti t n ty (.indexAddr T x ix) = some (.ptr L (off + j) 0 e, n) := by
  simp only [ev1, hx, hi, idxV, Int.natCast_nonneg, if_true, Int.toNat_natCast, he, hz, Option.map_some]
theorem set_same {d : Nat} {x : V} (hb : nth t d = x) (hx : x ≠ .any) : setN t d x = t := by
  unfold setN
  rw [nth_eq, List.getD_eq_getElem?_getD] at hb
  cases hd : t[d]? with
  | none => rw [hd] at hb; exact absurd hb.symm hx
  | some y =>
    rw [hd] at hb
    obtain rfl : y = x := hb
    obtain ⟨hl, rfl⟩ := List.getElem?_eq_some_iff.1 hd
    exact List.set_getElem_self hl
theorem OkOps.split {d : Nat} {b : Bool} {t1 t2 : List V} (hb : nth t d = .bool b) (e1 : setN t d (.bool true) = t1) (e2 : setN t d (.bool false) = t2) (h1 : b = true → OkOps P ops l t1 h n Q) (h2 : b = false → OkOps P ops l t2 h n Q) : OkOps P ops l t h n Q := by
  have hs := set_same hb (by simp)
  cases b with
  | true => rw [← hs, e1]; exact h1 rfl
  | false => rw [← hs, e2]; exact h2 rfl
theorem SOps.split {Q : List V → Nat → Prop} {d : Nat} {b : Bool} {t1 t2 : List V} (hb : nth t d = .bool b) (e1 : setN t d (.bool true) = t1) (e2 : setN t d (.bool false) = t2) (h1 : b = true → SOps P ops l t1 n Q) (h2 : b = false → SOps P ops l t2 n Q) : SOps P ops l t n Q := by
  have hs := set_same hb (by simp)
  cases b with
  | true => rw [← hs, e1]; exact h1 rfl
  | false => rw [← hs, e2]; exact h2 rfl
theorem Weak.len {f : FuncId} {args : List V} {r : V} (i : Nat) {L sz off : Nat} {es : List (List V)} (hi : args[i]? = some (.sl L sz off es)) (hk : es.length ≤ maxLen → Weak P f args r) : Weak P f args r := by
  intro base σ w vs h1 h2 h3 hm
  refine hk ?_ base σ w vs h1 h2 h3 hm
  have hlt : i < vs.length := by have := (List.getElem?_eq_some_iff.1 hi).1; have := hm.1; omega
  have := hm.2 i _ _ hi (List.getElem?_eq_getElem hlt)
  generalize vs[i] = v at this
  cases this with
  | sl _ _ _ _ A cap u g1 g2 => omega
/-- Told less, slot by slot. -/
def leL : List V → List V → Prop
  | [], [] => True
  | x :: xs, y :: ys => V.le x y ∧ leL xs ys
  | _, _ => False
theorem leL_spec : ∀ {t t' : List V}, leL t t' → t.length = t'.length ∧ ∀ (i : Nat) x y, t[i]? = some x → t'[i]? = some y → V.le x y
  | [], [], _ => ⟨rfl, by simp⟩
  | [], _ :: _, h => h.elim
  | _ :: _, [], h => h.elim
  | a :: t, b :: t', h => by
    obtain ⟨h1, h2⟩ := leL_spec h.2
    refine ⟨by simp [h1], fun i x y hx hy => ?_⟩
    cases i with
    | zero =>
      obtain rfl := Option.some.inj hx
      obtain rfl := Option.some.inj hy
      exact h.1
    | succ i => exact h2 i x y hx hy
theorem le_any (x : V) : V.le x .any := .inr (.inl rfl)
theorem le_rfl' (x : V) : V.le x x := .inl rfl
theorem le_nil (L sz : Nat) : V.le (.nil sz) (.sl L sz 0 []) := .inr (.inr ⟨L, sz, rfl, rfl⟩)
/-- A loop whose head's frame is told by a value. -/
theorem Ok.loopF {τ : Type} {c : Code} (F : τ → List V) (p : τ → Prop) (m : τ → Nat) (x : τ) (hle : leL t (F x)) (hp : p x)
    (round : ∀ x, p x → Ok P c (F x) h n (thenQ (fun t' h' n' => ∃ y, leL t' (F y) ∧ h' = h ∧ n' = n ∧ p y ∧ m y < m x) Q)) : Ok P (.loop c) t h n Q := by
  refine Ok.loop (fun x t' h' n' => leL t' (F x) ∧ h' = h ∧ n' = n ∧ p x) m x ⟨hle, rfl, rfl, hp⟩ ?_
  rintro x t' h' n' ⟨h1, rfl, rfl, h4⟩
  refine Ok.forget (leL_spec h1).1 (leL_spec h1).2 ((round x h4).mono ?_)
  intro e t2 h2 n2 hq
  cases e with
  | normal => obtain ⟨y, a, b, c, d, e⟩ := hq; exact ⟨y, ⟨a, b, c, d⟩, e⟩
  | exit id => exact hq
  | goto l => exact hq
  | ret => exact hq
  | panic ch => exact hq
  | outgrown => exact hq
/-- The same, what was made in the round being given up at its end. -/
theorem Ok.loopZ {τ : Type} {c : Code} (F : τ → List V) (p : τ → Prop) (m : τ → Nat) (x : τ) (hn : 1 ≤ n) (hle : leL t (F x)) (hp : p x)
    (round : ∀ x, p x → Ok P c (F x) h n (thenQ (fun t' h' _ => ∃ y, leL (V.renL (frz n) t') (F y) ∧ V.renL (frz n) h' = h ∧ p y ∧ m y < m x) Q)) : Ok P (.loop c) t h n Q := by
  intro base w0 hv σ a w g
  refine wp_loop_ghost (fun k a w => ∃ x t' σ, m x = k ∧ leL t' (F x) ∧ p x ∧ Good base w0 hv t' h n σ a w) (m x) ⟨x, t, σ, rfl, hle, hp, g⟩ ?_
  rintro k a w ⟨x, t', σ, rfl, h1, h4, g⟩
  have hf : Ok P c t' h n _ := Ok.forget (leL_spec h1).1 (leL_spec h1).2 (round x h4)
  refine wp_mono (hf base w0 hv σ a w g) ?_
  rintro e a' w' ⟨t2, h2, n2, σ', q, g'⟩
  cases e with
  | normal =>
    obtain ⟨y, a1, b1, c1, d1⟩ := q
    have g2 := g'.freeze n hn
    rw [b1] at g2
    exact ⟨m y, d1, y, _, _, rfl, a1, c1, g2⟩
  | exit id => exact ⟨t2, h2, n2, σ', q, g'⟩
  | goto l => exact ⟨t2, h2, n2, σ', q, g'⟩
  | ret => exact ⟨t2, h2, n2, σ', q, g'⟩
  | panic ch => exact ⟨t2, h2, n2, σ', q, g'⟩
  | outgrown => exact ⟨t2, h2, n2, σ', q, g'⟩
end
end Go.Proofs.Ytjhfabimacljhaa.K
