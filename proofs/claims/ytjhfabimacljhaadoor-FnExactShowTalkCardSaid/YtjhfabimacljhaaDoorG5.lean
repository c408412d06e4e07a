/- The judgement where a variable of the library holds some number. Nothing here depends on the program. -/
import Derived.Test.YtjhfabimacljhaaDoorG1
namespace Go.Proofs.YtjhfabimacljhaaDoor.K
open Go Go.RowKit
def cellG (g : Nat) (w : World) : Bool := match w.cell? ⟨g, 0, none⟩ with | some (.int .i64 _) => true | _ => false
theorem cellG_t {g : Nat} {w : World} (h : cellG g w = true) : ∃ m, w.cell? ⟨g, 0, none⟩ = some (.int .i64 m) := by
  unfold cellG at h
  split at h
  · exact ⟨_, by assumption⟩
  · cases h
theorem cellG_mk {g : Nat} {w : World} {m : Int} (h : w.cell? ⟨g, 0, none⟩ = some (.int .i64 m)) : cellG g w = true := by unfold cellG; rw [h]
theorem cellG_lt {g : Nat} {w : World} (h : cellG g w = true) : g < w.heap.size := by
  obtain ⟨m, hm⟩ := cellG_t h
  rcases Nat.lt_or_ge g w.heap.size with h1 | h1
  · exact h1
  · exfalso
    have : w.heap[g]? = none := Array.getElem?_eq_none h1
    simp [World.cell?, this] at hm
theorem cellG_keep {g b : Nat} {w w' : World} (h : cellG g w = true) (hg : g < b) (bel : Below b w w') : cellG g w' = true := by
  obtain ⟨m, hm⟩ := cellG_t h
  exact cellG_mk ((cell_same (bel.block g hg)).trans hm)
structure OkG (g : Nat) (P : Program) (c : Code) (t h : List V) (n : Nat) (Q : Exit → List V → List V → Nat → Prop) : Prop where
  go : ∀ base w0 hv σ a w, cellG g w0 = true → g < base.lim → Good base w0 hv t h n σ a w → c.wp P (Post base w0 hv Q) a w
structure OkOpsG (g : Nat) (P : Program) (ops : Array Oper) (l : List Oper) (t h : List V) (n : Nat) (Q : Exit → List V → List V → Nat → Prop) : Prop where
  go : ∀ base w0 hv σ a w, cellG g w0 = true → g < base.lim → Good base w0 hv t h n σ a w → wpList P ops (Post base w0 hv Q) l a w
structure WeakG (g : Nat) (P : Program) (f : FuncId) (args : List V) (r : V) : Prop where
  go : ∀ base σ w vs, cellG g w = true → (∀ k, base.bad k → k < w.heap.size) → σ 0 = none → (∀ L b o s, σ L = some (b, o, s) → b < w.heap.size) → Ms base σ w args vs → Calls P f vs.toArray w fun e w' => ∃ v, e = .returned v ∧ M base σ w' r v ∧ Below w.heap.size w w'
section
variable {g : Nat} {P : Program} {t h : List V} {n : Nat} {Q : Exit → List V → List V → Nat → Prop}
theorem OkG.of {c : Code} (hk : Ok P c t h n Q) : OkG g P c t h n Q := ⟨fun base w0 hv σ a w _ _ hg => hk base w0 hv σ a w hg⟩
theorem OkOpsG.of {ops : Array Oper} {l : List Oper} (hk : OkOps P ops l t h n Q) : OkOpsG g P ops l t h n Q := ⟨fun base w0 hv σ a w _ _ hg => hk base w0 hv σ a w hg⟩
theorem OkG.seq {x y : Code} (hk : OkG g P x t h n (thenQ (fun t' h' n' => OkG g P y t' h' n' Q) Q)) : OkG g P (.seq x y) t h n Q := by
  refine ⟨fun base w0 hv σ a w c1 c2 gd => ?_⟩
  refine wp_seq (wp_mono (hk.go base w0 hv σ a w c1 c2 gd) ?_)
  rintro e a' w' ⟨t', h', n', σ', q, g'⟩
  cases e with
  | normal => exact q.go base w0 hv σ' a' w' c1 c2 g'
  | exit id => exact ⟨t', h', n', σ', q, g'⟩
  | goto l => exact ⟨t', h', n', σ', q, g'⟩
  | ret => exact ⟨t', h', n', σ', q, g'⟩
  | panic ch => exact ⟨t', h', n', σ', q, g'⟩
  | outgrown => exact ⟨t', h', n', σ', q, g'⟩
theorem OkG.cond {c : Operand} {x y : Code} {b : Bool} (hc : opnd t c = .bool b) (hx : b = true → OkG g P x t h n Q) (hy : b = false → OkG g P y t h n Q) : OkG g P (.cond c x y) t h n Q := by
  refine ⟨fun base w0 hv σ a w c1 c2 gd => ?_⟩
  have hm := opnd_M gd.ts c
  rw [hc] at hm
  have hv' : a.eval c = .bool b := by generalize a.eval c = v at hm; cases hm; rfl
  exact wp_cond_split hv' (fun e => (hx e).go base w0 hv σ a w c1 c2 gd) (fun e => (hy e).go base w0 hv σ a w c1 c2 gd)
theorem OkG.skip (hq : Q .normal t h n) : OkG g P .skip t h n Q := .of (Ok.skip hq)
theorem OkG.ret (hq : Q .ret t h n) : OkG g P .ret t h n Q := .of (Ok.ret hq)
theorem OkG.region {id : Nat} {l : List Oper} (hk : OkOpsG g P l.toArray l t h n Q) : OkG g P (.region id l.toArray false) t h n Q :=
  ⟨fun base w0 hv σ a w c1 c2 gd => wp_region_lit (hk.go base w0 hv σ a w c1 c2 gd)⟩
theorem OkOpsG.step {ops : Array Oper} {o : Oper} {l : List Oper} {t' h' : List V} {n' : Nat} (hg : o.guard = none) (ho : OpOk P o t h n t' h' n') (hk : OkOpsG g P ops l t' h' n' Q) : OkOpsG g P ops (o :: l) t h n Q := by
  refine ⟨fun base w0 hv σ a w c1 c2 gd => ?_⟩
  unfold wpList
  rw [if_pos (wanted_none hg _)]
  exact .inl (ho base w0 hv σ a w gd _ _ fun σ' a' w' g' => hk.go base w0 hv σ' a' w' c1 c2 g')
theorem OkOpsG.ev {ti : Tab} {ops : Array Oper} {o : Oper} {l : List Oper} {t' : List V} {n' : Nat} {X : V} (hti : TabOk P ti) (hg : o.guard = none) (he : ev1 ti t n o.type o.op = some (X, n')) (ht : putV t o.dst X = t') (hk : OkOpsG g P ops l t' h n' Q) : OkOpsG g P ops (o :: l) t h n Q :=
  OkOpsG.step hg (ht ▸ ev1_ok hti rfl he) hk
theorem OkOpsG.call {ops : Array Oper} {o : Oper} {l : List Oper} {t' : List V} {fx : Operand} {args : Array Operand} {ts : Array TypeId} {f : FuncId} {caps ags : List V} {x : V} (hg : o.guard = none) (ho : o.op = .call ⟨.value fx, args, ts⟩) (hf : opnd t fx = .fn f caps) (ha : args.toList.map (opnd t) ++ caps = ags) (hcl : Callable P f)
    (hp : WeakG g P f ags x) (ht : putV t o.dst x = t') (hk : OkOpsG g P ops l t' h n Q) : OkOpsG g P ops (o :: l) t h n Q := by
  subst ha
  subst ht
  refine ⟨fun base w0 hv σ a w c1 c2 gd => ?_⟩
  unfold wpList
  rw [if_pos (wanted_none hg _)]
  refine .inl ?_
  obtain ⟨fn, hfn, hbody, hname⟩ := hcl
  have hm := opnd_M gd.ts fx
  rw [hf] at hm
  obtain ⟨cs, hcs, hfv⟩ : ∃ cs : List Value, Ms base σ w caps cs ∧ a.eval fx = .func (.func f) #[] cs.toArray := by
    generalize a.eval fx = fv at hm
    cases hm with
    | fn _ _ vs h1 h6 => exact ⟨vs, ⟨h1, h6⟩, rfl⟩
  have hargs : Ms base σ w (args.toList.map (opnd t)) (args.toList.map a.eval) := by
    refine ⟨by simp, fun i x u hx hu => ?_⟩
    rw [List.getElem?_map] at hx hu
    obtain ⟨q, hq, rfl⟩ := Option.map_eq_some_iff.1 hx
    rw [hq] at hu
    obtain rfl := Option.some.inj hu
    exact opnd_M gd.ts q
  have hcw := cellG_keep c1 c2 gd.bel
  have hcall := hp.go base σ w (args.toList.map a.eval ++ cs) hcw (fun k hk => Nat.lt_of_lt_of_le (base.lt k hk) gd.inv.bs) gd.inv.zero (fun L b o s h => (gd.inv.own L b o s h).2) (hargs.append hcs)
  have hrun : (execOp a.eval o).run P w = .ok (.enter f (args.toList.map a.eval ++ cs).toArray) w := by
    have hargs' : (#[] ++ args.map a.eval ++ cs.toArray : Array Value) = (args.toList.map a.eval ++ cs).toArray := by
      apply Array.ext'
      simp
    simp only [execOp, ho, resolve, hfv, Deferred.ofValue, Sem.run_bind, Sem.run_pure, Result.andThen_ok, invoke, callFunc, run_program, hfn, hname, hbody, Bool.false_eq_true, if_false, hargs']
  unfold Oper.wp
  rw [hrun, Oper.upon_enter]
  refine hcall.mono ?_
  rintro e w' ⟨v, rfl, hm2, bel⟩
  have hn : New base σ w n 0 x v w' := ⟨σ, bel, fun _ _ => rfl, fun L _ _ _ h1 h2 => by omega, fun _ _ _ _ _ _ _ h1 h2 => by omega, hm2⟩
  obtain ⟨σ', hk2, h1, h2, h3, h4, bel2⟩ := hn.keeps (fun L b o s h => (gd.inv.own L b o s h).2) (fun L h1 h2 => by omega)
  have hσ : σ' = σ := funext fun L => h1 L (by omega)
  subst hσ
  refine hk.go base w0 hv σ' _ w' c1 c2 ⟨(gd.ts.keep hk2).put _ h4, gd.hs.keep hk2, by cases o.dst <;> exact gd.dfr, Below.after gd.bel bel gd.inv.bs, ⟨Nat.le_trans gd.inv.bs bel.size, gd.inv.pos, gd.inv.zero, gd.inv.fresh, fun L b o s hL => ?_, gd.inv.inj⟩⟩
  have := gd.inv.own L b o s hL
  have := bel.size
  omega
theorem WeakG.enter {ti : Tab} (hti : TabOk P ti) {f : FuncId} {fn : Func} {c : Code} {args : List V} {r : V} (hf : P.funcs[f]? = some fn) (hb : fn.body = some c) (hz : ∀ L ∈ V.labelsL args, L = 0)
    (ht : args ++ List.replicate (fn.ntmps - args.length) .any = t) (hk : OkG g P c t [] 1 (retQ ti fn fun x _ _ => V.erase x = r)) : WeakG g P f args r := by
  subst ht
  refine ⟨fun base σ w vs hcell hbad h0 hσ hargs => ?_⟩
  let base1 : Base := ⟨w.heap.size, fun k => base.bad k ∨ ∃ L b o s, σ L = some (b, o, s) ∧ b = k, fun k hk => by
    rcases hk with hk | ⟨L, b, o, s, hs, rfl⟩
    · exact hbad k hk
    · exact hσ L b o s hs⟩
  have inv : Inv base1 noSig w 1 := ⟨Nat.le_refl _, Nat.le_refl _, rfl, fun _ _ => rfl, fun _ _ _ _ h => by simp [noSig] at h, fun _ _ _ _ _ _ _ h => by simp [noSig] at h⟩
  have hargs1 : Ms base1 noSig w args vs := by
    refine ⟨hargs.1, fun i x u hx hu => (hargs.2 i x u hx hu).as fun L hL sz pos room ad hat => ?_⟩
    have hL0 := hz L (labels_in1 hx hL)
    rcases hat with ⟨_, hold⟩ | ⟨b, o, _, _, _, hs, _⟩
    · refine .inl ⟨hL0, hold.1, fun _ _ _ _ h => by simp [noSig] at h, ?_⟩
      rintro (hk | ⟨L, b, o, s, hs, hb⟩)
      · exact hold.2.2 hk
      · exact hold.2.1 L b o s hs hb
    · rw [hL0, h0] at hs; cases hs
  refine calls_of_wp hf hb ?_
  have hg : Good base1 w [] (args ++ List.replicate (fn.ntmps - args.length) .any) [] 1 noSig { tmps := vs.toArray ++ Array.replicate (fn.ntmps - vs.toArray.size) undef, defers := [] } w := by
    refine ⟨?_, ⟨rfl, by simp⟩, rfl, Below.refl _ _, inv⟩
    have hl := hargs1.1
    refine ⟨by simp [hl], fun i x u hx hu => ?_⟩
    simp only [Array.toList_append, Array.toList_replicate] at hu
    rw [List.getElem?_append] at hx hu
    rw [← hl] at hu
    split at hx
    · rename_i hi
      rw [if_pos hi] at hu
      exact hargs1.2 i x u hx hu
    · have := List.eq_of_mem_replicate (List.mem_of_getElem? hx)
      subst this
      exact .any _
  refine wp_mono (hk.go base1 w [] noSig _ w hcell (cellG_lt hcell) hg) ?_
  rintro e a' w' ⟨t', h', n', σ', ⟨he, xs, hxs, hq⟩, g'⟩
  obtain ⟨v, hr, hm⟩ := results_run hti g'.ts hxs
  have hfin : ∃ v', Ending.returned v = .returned v' ∧ M base σ w' r v' ∧ Below w.heap.size w w' := by
    refine ⟨v, rfl, ?_, g'.bel⟩
    rw [← hq]
    refine hm.erase fun L _ sz pos room ad hat => ?_
    rcases hat with ⟨_, hold⟩ | ⟨b, o, cur, e, fr, hs, rfl, hh, _⟩
    · exact ⟨hold.1, fun L b o s hs hb => hold.2.2 (.inr ⟨L, b, o, s, hs, hb⟩), fun hk => hold.2.2 (.inl hk)⟩
    · have hge := (g'.inv.own L b o sz hs).1
      have hge' : w.heap.size ≤ b := hge
      refine ⟨(g'.inv.own L b o sz hs).2, fun L2 b2 o2 s2 hs2 hb => ?_, fun hk => ?_⟩
      · have := hσ L2 b2 o2 s2 hs2
        have hb' : b2 = b := hb
        omega
      · have : b < w.heap.size := hbad b hk
        omega
  rcases he with rfl | rfl
  · exact ⟨g'.dfr, v, hr, hfin⟩
  · exact ⟨g'.dfr, v, hr, hfin⟩
end
end Go.Proofs.YtjhfabimacljhaaDoor.K
