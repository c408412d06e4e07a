/- Steps of the chain of a region that draws its order. -/
import Derived.Test.YtjhfabimacljhaaGreatG9
import Derived.Test.YtjhfabimacljhaaGreatG8
import Derived.Test.YtjhfabimacljhaaGreatG1
import Derived.Test.YtjhfabimacljhaaGreatG4
import Derived.Test.YtjhfabimacljhaaGreatG5
import Derived.Test.YtjhfabimacljhaaGreatG6
import Derived.Test.YtjhfabimacljhaaGreatG7
namespace Go.Proofs.YtjhfabimacljhaaGreat.K
open Go Go.RowKit
set_option linter.unusedVariables false
set_option linter.unusedSimpArgs false
section
variable {P : Program} {ti : Tab} {n n' : Nat} {t t' h h' : List V} {Q : Exit → List V → List V → Nat → Prop} {ops : Array Oper} {o : Oper} {i : Nat} {la hs : List Nat} {rest : List Stg}
theorem OpT.updF {fx : Operand} {args : Array Operand} {ts : Array TypeId} {f : FuncId} {caps ags : List V} {L j k : Nat} {e' : List V} {x : V} (ho : o.op = .call ⟨.value fx, args, ts⟩) (hf : opnd t fx = .fn f caps) (ha : args.toList.map (opnd t) ++ caps = ags)
    (hcl : Callable P f) (h1 : Ahd n t) (h2 : Ahd n h) (hc : ∀ h, Ahd n h → OkCall P f ags h n fun r h1 n1 => r = x ∧ h1 = V.updL L j e' h ∧ n1 = n + k) : OpT P ops o t h n (putV (V.updL L j e' t) o.dst x) (V.updL L j e' h) (n + k) := by
  intro f' hf' hd
  have e1 : opnd (maskP f' 0 t) fx = opnd t fx := opnd_maskP (by rw [ho]; simp [Op.operands, Call.operands]) hf'
  have e2 : args.toList.map (opnd (maskP f' 0 t)) = args.toList.map (opnd t) := List.map_congr_left fun x hx => opnd_maskP (by rw [ho]; simp only [Op.operands, Call.operands, Array.toList_append, List.mem_append]; exact .inr hx) hf'
  have e3 : maskP f' 0 (V.updL L j e' t) = V.updL L j e' (maskP f' 0 t) := by
    unfold V.updL
    rw [travL_eq, travL_eq]
    exact maskP_map f' _ rfl t 0
  rw [← maskP_put hd, e3]
  refine OpOk.call ho (e1.trans hf) hcl ?_ ?_
  · unfold V.updL; rw [travL_len]
  · rw [e2, ha]
    refine (hc (maskP f' 0 t ++ h) ((maskP_ahd h1).app h2)).mono ?_
    rintro r h1 n1 ⟨rfl, rfl, rfl⟩
    exact ⟨rfl, by unfold V.updL; rw [travL_eq, travL_eq, travL_eq, List.map_append], rfl⟩
theorem Pend.updF {fx : Operand} {args : Array Operand} {ts : Array TypeId} {f : FuncId} {caps ags : List V} {L j k : Nat} {e' : List V} {x : V} (hb : ops[i]? = some o) (hg : o.guard = none) (ho : o.op = .call ⟨.value fx, args, ts⟩) (hf : opnd t fx = .fn f caps) (ha : args.toList.map (opnd t) ++ caps = ags)
    (hcl : Callable P f) (h1 : Ahd n t) (h2 : Ahd n h) (hc : ∀ h, Ahd n h → OkCall P f ags h n fun r h1 n1 => r = x ∧ h1 = V.updL L j e' h ∧ n1 = n + k) (hn : n + k = n') (ht : putV (V.updL L j e' t) o.dst x = t') (hh : V.updL L j e' h = h')
    (hk : SOps P ops (ixs ops hs) t' n' fun t2 n2 => LateA P ops t' h' n' t2 la ∧ Pend P ops Q rest t2 h' n2) : Pend P ops Q ((i, la, hs) :: rest) t h n := by
  refine Pend.step hb hg ?_ (ht ▸ hh ▸ hn ▸ OpT.updF ho hf ha hcl h1 h2 hc) hk
  rw [← ht]
  have : (V.updL L j e' t).length = t.length := by unfold V.updL; rw [travL_len]
  cases o.dst <;> simp [putV, this]
theorem Pend.store {T : TypeId} {p x : Operand} {L j : Nat} {e' : List V} (hti : TabOk P ti) (hb : ops[i]? = some o) (hg : o.guard = none) (hdst : o.dst = none) (ho : o.op = .store T p x) (hs' : Go.Proofs.YtjhfabimacljhaaGreat.K.storeE (ti T) (opnd t p) (opnd t x) = some (L, j, e')) (hc : ∃ y l, cellsV (opnd t x) = y :: l) (hfree : L ∉ V.labelsL e')
    (ht : V.updL L j e' t = t') (hh : V.updL L j e' h = h') (hk : SOps P ops (ixs ops hs) t' n fun t2 n2 => LateA P ops t' h' n t2 la ∧ Pend P ops Q rest t2 h' n2) : Pend P ops Q ((i, la, hs) :: rest) t h n :=
  Pend.step hb hg (by rw [← ht]; unfold V.updL; rw [travL_len]) (ht ▸ hh ▸ OpT.store hti hdst ho hs' hc hfree) hk
end
end Go.Proofs.YtjhfabimacljhaaGreat.K

/- Walks: draws (61). Printed by w2.py. -/
namespace Go.Proofs.YtjhfabimacljhaaGreat.K
open Go Go.RowKit
set_option linter.unusedVariables false
set_option linter.unusedSimpArgs false
set_option maxHeartbeats 4000000
set_option maxRecDepth 20000
end Go.Proofs.YtjhfabimacljhaaGreat.K

/- Calls of which it is told only that what they give is one of these. -/
namespace Go.Proofs.YtjhfabimacljhaaGreat.K
open Go Go.RowKit
set_option linter.unusedVariables false
set_option linter.unusedSimpArgs false
structure WeakX (P : Program) (f : FuncId) (args : List V) (τ : Type) (X : τ → V) (G : τ → Prop) : Prop where
  go : ∀ base σ w vs, (∀ k, base.bad k → k < w.heap.size) → σ 0 = none → (∀ L b o s, σ L = some (b, o, s) → b < w.heap.size) → Ms base σ w args vs → Calls P f vs.toArray w fun e w' => ∃ y v, e = .returned v ∧ G y ∧ M base σ w' (X y) v ∧ Below w.heap.size w w'
section
variable {P : Program} {t h : List V} {n n' : Nat} {Q : Exit → List V → List V → Nat → Prop} {ops : Array Oper} {o : Oper} {l : List Oper} {τ : Type} {X : τ → V} {G : τ → Prop} {E : τ → List V}
theorem WeakX.of {f : FuncId} {args : List V} (hz : ∀ L ∈ V.labelsL args, L = 0) (hc : OkCall P f args [] 1 fun x _ _ => ∃ y, G y ∧ V.erase x = X y) : WeakX P f args τ X G := by
  refine ⟨fun base σ w vs hbad h0 hσ hargs => ?_⟩
  let base1 : Base := ⟨w.heap.size, fun k => base.bad k ∨ ∃ L b o s, σ L = some (b, o, s) ∧ b = k, fun k hk => by
    rcases hk with hk | ⟨L, b, o, s, hs, rfl⟩
    · exact hbad k hk
    · exact hσ L b o s hs⟩
  have inv : Inv base1 noSig w 1 := ⟨Nat.le_refl _, Nat.le_refl _, rfl, fun _ _ => rfl, fun _ _ _ _ h => by simp [noSig] at h, fun _ _ _ _ _ _ _ h => by simp [noSig] at h⟩
  have hargs1 : Ms base1 noSig w args vs := by
    refine ⟨hargs.1, fun i x u hx hu => (hargs.2 i x u hx hu).as fun L hL sz pos room ad hat => ?_⟩
    have hL0 := hz L (labels_in1 hx hL)
    rcases hat with ⟨_, hold⟩ | ⟨b, o, _, _, _, hs, _⟩
    · refine .inl ⟨hL0, hold.1, fun _ _ _ _ h => by simp [noSig] at h, ?_⟩
      rintro (hk | ⟨L, b, o, s, hs, hb⟩)
      · exact hold.2.2 hk
      · exact hold.2.1 L b o s hs hb
    · rw [hL0, h0] at hs; cases hs
  refine (hc base1 w [] noSig w vs inv hargs1 ⟨rfl, by simp⟩ (Below.refl _ _)).mono ?_
  rintro e w' ⟨x, h', n', σ', v, rfl, ⟨y, hy, hxy⟩, hm, _, inv', bel⟩
  refine ⟨y, v, rfl, hy, ?_, bel⟩
  rw [← hxy]
  refine hm.erase fun L _ sz pos room ad hat => ?_
  rcases hat with ⟨_, hold⟩ | ⟨b, o, cur, e, fr, hs, rfl, hh, _⟩
  · exact ⟨hold.1, fun L b o s hs hb => hold.2.2 (.inr ⟨L, b, o, s, hs, hb⟩), fun hk => hold.2.2 (.inl hk)⟩
  · have hge := (inv'.own L b o sz hs).1
    have hge' : w.heap.size ≤ b := hge
    refine ⟨(inv'.own L b o sz hs).2, fun L2 b2 o2 s2 hs2 hb => ?_, fun hk => ?_⟩
    · have := hσ L2 b2 o2 s2 hs2
      have hb' : b2 = b := hb
      omega
    · have : b < w.heap.size := hbad b hk
      omega
theorem WeakX.enter {ti : Tab} (hti : TabOk P ti) {f : FuncId} {fn : Func} {c : Code} {args : List V} (hf : P.funcs[f]? = some fn) (hb : fn.body = some c) (hz : V.labelsL args = [] ∨ ∀ L ∈ V.labelsL args, L = 0)
    (ht : args ++ List.replicate (fn.ntmps - args.length) .any = t) (hk : Ok P c t [] 1 (retQ ti fn fun x _ _ => ∃ y, G y ∧ V.erase x = X y)) : WeakX P f args τ X G :=
  WeakX.of (hz.elim (fun h => by rw [h]; simp) id) (OkCall.enter hti hf hb (ht ▸ hk))
theorem callee_run {fx : Operand} {args : Array Operand} {ts : Array TypeId} {f : FuncId} {caps : List V} (ho : o.op = .call ⟨.value fx, args, ts⟩) (hf : opnd t fx = .fn f caps) (hcl : Callable P f) {base : Base} {σ : Sig} {a : Act} {w : World} (hts : Ms base σ w t a.tmps.toList) :
    ∃ cs, Ms base σ w (args.toList.map (opnd t) ++ caps) (args.toList.map a.eval ++ cs) ∧ (execOp a.eval o).run P w = .ok (.enter f (args.toList.map a.eval ++ cs).toArray) w := by
  obtain ⟨fn, hfn, hbody, hname⟩ := hcl
  have hm := opnd_M hts fx
  rw [hf] at hm
  obtain ⟨cs, hcs, hfv⟩ : ∃ cs : List Value, Ms base σ w caps cs ∧ a.eval fx = .func (.func f) #[] cs.toArray := by
    generalize a.eval fx = fv at hm
    cases hm with
    | fn _ _ vs h1 h6 => exact ⟨vs, ⟨h1, h6⟩, rfl⟩
  have hargs : Ms base σ w (args.toList.map (opnd t)) (args.toList.map a.eval) := by
    refine ⟨by simp, fun i x u hx hu => ?_⟩
    rw [List.getElem?_map] at hx hu
    obtain ⟨q, hq, rfl⟩ := Option.map_eq_some_iff.1 hx
    rw [hq] at hu
    obtain rfl := Option.some.inj hu
    exact opnd_M hts q
  refine ⟨cs, hargs.append hcs, ?_⟩
  have hargs' : (#[] ++ args.map a.eval ++ cs.toArray : Array Value) = (args.toList.map a.eval ++ cs).toArray := by
    apply Array.ext'
    simp
  simp only [execOp, ho, resolve, hfv, Deferred.ofValue, Sem.run_bind, Sem.run_pure, Result.andThen_ok, invoke, callFunc, run_program, hfn, hname, hbody, Bool.false_eq_true, if_false, hargs']
theorem Ok.join {x y : Code} {F : τ → List V} (W : τ → List (Nat × V)) (dead : List Nat) (hF : ∀ z, overW (W z) (overD dead t) = F z) (H : τ → List V) (N : τ → Nat) (p : τ → Prop)
    (hx : Ok P x t h n (thenQ (fun t' h' n' => ∃ z, leL t' (F z) ∧ h' = H z ∧ n' ≤ N z ∧ p z) Q)) (hy : ∀ z, p z → Ok P y (F z) (H z) (N z) Q) : Ok P (.seq x y) t h n Q := by
  refine Ok.seq (hx.mono ?_)
  intro e t1 h1 n1 hq
  cases e with
  | normal =>
    obtain ⟨z, h2, rfl, h4, h5⟩ := hq
    exact Ok.bump h4 (Ok.forget (leL_spec h2).1 (leL_spec h2).2 (hy z h5))
  | exit id => exact hq
  | goto l => exact hq
  | ret => exact hq
  | panic ch => exact hq
  | outgrown => exact hq
theorem OkOps.weakX {fx : Operand} {args : Array Operand} {ts : Array TypeId} {f : FuncId} {caps ags : List V} {T' : τ → List V} (hg : o.guard = none) (ho : o.op = .call ⟨.value fx, args, ts⟩) (hf : opnd t fx = .fn f caps) (ha : args.toList.map (opnd t) ++ caps = ags) (hcl : Callable P f)
    (hp : WeakX P f ags τ X G) (ht : ∀ y, putV t o.dst (X y) = T' y) (hk : ∀ y, G y → OkOps P ops l (T' y) h n Q) : OkOps P ops (o :: l) t h n Q := by
  subst ha
  intro base w0 hv σ a w gd
  unfold wpList
  rw [if_pos (wanted_none hg _)]
  refine .inl ?_
  obtain ⟨cs, hargs, hrun⟩ := callee_run ho hf hcl gd.ts
  have hcall := hp.go base σ w _ (fun k hk => Nat.lt_of_lt_of_le (base.lt k hk) gd.inv.bs) gd.inv.zero (fun L b o s h => (gd.inv.own L b o s h).2) hargs
  unfold Oper.wp
  rw [hrun, Oper.upon_enter]
  refine hcall.mono ?_
  rintro e w' ⟨y, v, rfl, hy, hm2, bel⟩
  have hn : New base σ w n 0 (X y) v w' := ⟨σ, bel, fun _ _ => rfl, fun L _ _ _ h1 h2 => by omega, fun _ _ _ _ _ _ _ h1 h2 => by omega, hm2⟩
  obtain ⟨σ', hk2, h1, h2, h3, h4, bel2⟩ := hn.keeps (fun L b o s h => (gd.inv.own L b o s h).2) (fun L h1 h2 => by omega)
  have hσ : σ' = σ := funext fun L => h1 L (by omega)
  subst hσ
  refine hk y hy base w0 hv σ' _ w' ⟨ht y ▸ (gd.ts.keep hk2).put _ h4, gd.hs.keep hk2, by cases o.dst <;> exact gd.dfr, Below.after gd.bel bel gd.inv.bs, ⟨Nat.le_trans gd.inv.bs bel.size, gd.inv.pos, gd.inv.zero, gd.inv.fresh, fun L b o s hL => ?_, gd.inv.inj⟩⟩
  have := gd.inv.own L b o s hL
  have := bel.size
  omega
theorem OkOps.updX {fx : Operand} {args : Array Operand} {ts : Array TypeId} {f : FuncId} {caps ags : List V} {L j k : Nat} {e0 : List V} {T' H' : τ → List V} (hg : o.guard = none) (ho : o.op = .call ⟨.value fx, args, ts⟩) (hf : opnd t fx = .fn f caps) (ha : args.toList.map (opnd t) ++ caps = ags)
    (hcl : Callable P f) (h1 : Ahd n t) (h2 : Ahd n h) (hc : ∀ h, Ahd n h → V.updL L j e0 h = h → OkCall P f ags h n fun r h1 n1 => ∃ y, G y ∧ r = X y ∧ h1 = V.updL L j (E y) h ∧ n1 = n + k) (hf1 : V.updL L j e0 t = t) (hf2 : V.updL L j e0 h = h) (hn : n + k = n') (ht : ∀ y, putV (V.updL L j (E y) t) o.dst (X y) = T' y) (hh : ∀ y, V.updL L j (E y) h = H' y)
    (hk : ∀ y, G y → OkOps P ops l (T' y) (H' y) n' Q) : OkOps P ops (o :: l) t h n Q := by
  subst ha
  have happ : ∀ (e : List V) (a b : List V), V.updL L j e (a ++ b) = V.updL L j e a ++ V.updL L j e b := fun e a b => by unfold V.updL; rw [travL_eq, travL_eq, travL_eq, List.map_append]
  intro base w0 hv σ a w gd
  unfold wpList
  rw [if_pos (wanted_none hg _)]
  refine .inl ?_
  refine call_wp ho hf hcl (hc (t ++ h) (h1.app h2) (by rw [happ, hf1, hf2])) gd _ _ ?_
  rintro r t1 h1' n1 σ' a' w' ⟨y, hy, rfl, e, rfl⟩ hl gd'
  have e2 : t1 ++ h1' = V.updL L j (E y) t ++ V.updL L j (E y) h := by rw [e, happ]
  obtain ⟨rfl, rfl⟩ := List.append_inj e2 (by unfold V.updL; rw [travL_len]; exact hl)
  refine hk y hy base w0 hv σ' a' w' ?_
  rw [← ht y, ← hh y, ← hn]
  exact gd'
end
end Go.Proofs.YtjhfabimacljhaaGreat.K

/- Walks: stores drawn. Printed by w2.py. -/
namespace Go.Proofs.YtjhfabimacljhaaGreat.K
open Go Go.RowKit
set_option linter.unusedVariables false
set_option linter.unusedSimpArgs false
abbrev nInbox : Str := [105, 110, 98, 111, 120]
abbrev nWork : Str := [119, 111, 114, 107]
abbrev nOld : Str := [111, 108, 100]
abbrev nNew : Str := [110, 101, 119]
abbrev nOther : Str := [111, 116, 104, 101, 114]
abbrev textsL : List Str := [[104, 101, 108, 108, 111], [104, 105, 10], [], [116, 101, 120, 116, 32, 111, 102, 32, 105, 116], [0, 255], [97, 32, 98]]
abbrev names1 : List Str := [nInbox, nWork, nOld]
abbrev names2 : List Str := [nInbox, nWork, nNew, nOther]
theorem pick_len {c : Cur} {xs : List Str} {m : Nat} (h : 0 < xs.length) (hm : ∀ z ∈ xs, z.length ≤ m) : (pickS c xs).1.length ≤ m := hm _ (pickS_mem h)
theorem lz : (∀ (y : Nat) (l : List Mail), (y ∈ V.labelsLL (l.map cMail)) = (y = 0 ∧ l ≠ [])) ∧ (∀ (y : Nat) (l : List Box), (y ∈ V.labelsLL (l.map cBox)) = (y = 0 ∧ l ≠ [])) := by
  refine ⟨fun y l => propext ⟨fun h => ⟨?_, ?_⟩, ?_⟩, fun y l => propext ⟨fun h => ⟨?_, ?_⟩, ?_⟩⟩
  · exact labels0_map (f := cMail) (fun x L hL => by simp [cMail, V.labelsL, V.labels, zz, zf, zy] at hL; exact hL) l y h
  · rintro rfl; cases h
  · rintro ⟨rfl, hl⟩
    obtain ⟨m, l, rfl⟩ := List.exists_cons_of_ne_nil hl
    simp [V.labelsLL, V.labelsL, V.labels, cMail]
  · refine labels0_map (f := cBox) (fun x L hL => ?_) l y h
    simp [cBox, V.labelsL, V.labels, zz, zf] at hL
    rcases hL with h | h | h
    · exact h
    · exact labels0_map (f := cMail) (fun x L hL => by simp [cMail, V.labelsL, V.labels, zz, zf, zy] at hL; exact hL) _ L h
    · exact h
  · rintro rfl; cases h
  · rintro ⟨rfl, hl⟩
    obtain ⟨m, l, rfl⟩ := List.exists_cons_of_ne_nil hl
    simp [V.labelsLL, V.labelsL, V.labels, cBox]
theorem storeNew_ok {b : Int} (h : b = 1 ∨ b = 2) : storeOk ⟨b, 0, [], []⟩ = true := by rcases h with rfl | rfl <;> rfl
theorem base_add {b i : Nat} (h : b ≤ 900) (h2 : i ≤ 1000) : IntKind.i64.wrap ((b : Int) + (i : Int)) = (b : Int) + (i : Int) := by rw [IntKind.wrap_i64]; omega
theorem makeBox_ok {s : Store} (g : Int) (n : Str) (h : storeOk s = true) : storeOk (makeBox s g n).1 = true ∧ (makeBox s g n).1.by_ = s.by_ := by
  unfold makeBox
  split
  · exact ⟨h, rfl⟩
  · split
    · rename_i h2; exact ⟨h2, rfl⟩
    · exact ⟨h, rfl⟩
theorem renameBox_ok {s : Store} (g : Int) (n : Str) (h : storeOk s = true) : storeOk (renameBox s g n).1 = true ∧ (renameBox s g n).1.by_ = s.by_ := by
  unfold renameBox
  split
  · exact ⟨h, rfl⟩
  · split
    · rename_i h2; exact ⟨h2, by show (nameOut s _ n).by_ = _; unfold nameOut; split <;> rfl⟩
    · exact ⟨h, rfl⟩
theorem stamped_ok {s : Store} (i : Nat) (b : Box) (h : storeOk s = true) : storeOk (stamped s i b).1 = true ∧ (stamped s i b).1.by_ = s.by_ := by
  unfold stamped
  split
  · rename_i h2; exact ⟨h2, rfl⟩
  · exact ⟨h, rfl⟩
theorem putMail_ok {s : Store} (b g f : Int) (t : Str) (h : storeOk s = true) : storeOk (putMail s b g f t).1 = true ∧ (putMail s b g f t).1.by_ = s.by_ := by
  unfold putMail
  split
  · exact ⟨h, rfl⟩
  · split
    · exact stamped_ok _ _ h
    · exact ⟨h, rfl⟩
theorem markMail_ok {s : Store} (b g f : Int) (h : storeOk s = true) : storeOk (markMail s b g f).1 = true ∧ (markMail s b g f).1.by_ = s.by_ := by
  unfold markMail
  split
  · exact ⟨h, rfl⟩
  · split
    · exact stamped_ok _ _ h
    · exact ⟨h, rfl⟩
set_option maxHeartbeats 4000000
set_option maxRecDepth 20000
theorem c_spec_l05Text (c : Cur) (L : Nat) (hb : c.b.length ≤ 4611686018427387904) {h : List V} {n : Nat} (hlt : Ahd n h) (hL : L + 1 < n) : OkCall Tryz.prog 196 [.ptr (L + 1) 0 0 (cCur c)] h n (fun r h1 n1 => r = .str (pickS c textsL).1 ∧ h1 = V.updL (L + 1) 0 (cCur (pickS c textsL).2) h ∧ n1 = n + 1) := by
 have nq01 : ((L + 1 : Nat) = n) = False := eq_false (by omega)
 have nq02 : ((L + 1 : Nat) = 0) = False := eq_false (by omega)
 have nq10 : ((n : Nat) = L + 1) = False := eq_false (by omega)
 have nq12 : ((n : Nat) = 0) = False := eq_false (by omega)
 have nq20 : ((0 : Nat) = L + 1) = False := eq_false (by omega)
 have nq21 : ((0 : Nat) = n) = False := eq_false (by omega)
 refine OkCall.enter' tab_ok Tryz.func196 rfl (t := [.ptr (L + 1) 0 0 (cCur c), .any, .any, .any, .any, .any]) rfl ?_
 refine OQ ?_
 refine EV ?_
 refine ON ?_
 refine OQ ?_
 refine EV ?_
 refine OkOps.ev tab_ok rfl (ev_bs (by simp only [kT] <;> rfl) (by simp only [kT] <;> rfl) (by decide) (by decide) (by simp only [kE, kT, kL, kC, List.map_cons, List.map_nil] <;> rfl) (by simp only [kfe, beq_self_eq_true, Bool.and_true, Bool.true_and, decide_true, Nat.zero_add, Nat.lt_add_one, Nat.reduceLT, Nat.reduceAdd, Nat.zero_lt_succ, if_true, ↓reduceIte] <;> rfl)) (by simp only [kP] <;> rfl) ?_
 refine OkOps.upd rfl rfl (by simp only [kE, kT, kL, kC] <;> rfl) (by simp only [kE, kT, kL, kC] <;> rfl) cl107 (fun h => c_spec_l01Pick c textsL L n hb (by decide) (by omega)) (by simp only [eq_self, V.updL, V.travL, V.travLL, V.trav, updS, updP, and_self, true_and, and_true, false_and, and_false, Nat.reduceEqDiff, Nat.reduceSub, Nat.le_refl, Nat.zero_le, ↓reduceIte, if_true, if_false, kP, zz, zf, zy, nq01, nq02, nq10, nq12, nq20, nq21] <;> rfl) (rfl) ?_
 refine EV ?_
 refine ON ?_
 refine Ok.ret ?_
 with_reducible repeat (first | refine thenQ_ret ?_ | refine blockQ_ret ?_)
 refine RT ?_
 exact ⟨rfl, rfl, rfl⟩
theorem w_spec_StoreNew (by_ : Int) : Weak Tryz.prog 28 [.int .i64 by_] (.agg (cStore ⟨by_, 0, [], []⟩)) := by
 refine Weak.enter tab_ok Tryz.func28 rfl (.inr (by simp [V.labelsL, V.labels, zz, zf, zy])) (t := [.int .i64 by_, .any, .any, .any, .any]) rfl ?_
 refine OQ ?_
 refine EV ?_
 refine ON ?_
 refine OQ ?_
 refine EV ?_
 refine OkOps.ev tab_ok rfl (by simp [ev1, fillV, kE, kT, kL] <;> first | rfl | exact ⟨rfl, rfl⟩) (by simp only [kP] <;> rfl) ?_
 refine OE ?_
 refine ON ?_
 refine Ok.ret ?_
 with_reducible repeat (first | refine thenQ_ret ?_ | refine blockQ_ret ?_)
 refine RT ?_
 first | rfl | (simp [V.erase, V.trav, V.travL, V.travLL, packV, zz, zf, zy]; done)
theorem c_spec_l07Use (c : Cur) (s : Store) (m base : Nat) (L : Nat) (hb : c.b.length ≤ 4611686018427387904) (hs : storeOk s = true) (hm : m ≤ 13) (hbase : base ≤ 900) {h : List V} {n : Nat} (hlt : Ahd n h) (hL : L + 1 < n) (hfix : V.updL (L + 1) 0 (cCur c) h = h) : OkCall Tryz.prog 146 [.ptr (L + 1) 0 0 (cCur c), .agg (cStore s), .int .i64 (m : Int), .int .i64 (base : Int)] h n (fun r h1 n1 => ∃ y : Store × Cur, (storeOk y.1 = true ∧ y.1.by_ = s.by_ ∧ y.2.b = c.b) ∧ r = .agg (cStore y.1) ∧ h1 = V.updL (L + 1) 0 (cCur y.2) h ∧ n1 = n + 400) := by
 obtain ⟨n, rfl⟩ : ∃ k, n = k + 1 := ⟨n - 1, by omega⟩
 have nq01 : ((L + 1 : Nat) = n + 1) = False := eq_false (by omega)
 have nq02 : ((L + 1 : Nat) = n + 1 + 1) = False := eq_false (by omega)
 have nq03 : ((L + 1 : Nat) = 0) = False := eq_false (by omega)
 have nq10 : ((n + 1 : Nat) = L + 1) = False := eq_false (by omega)
 have nq12 : ((n + 1 : Nat) = n + 1 + 1) = False := eq_false (by omega)
 have nq13 : ((n + 1 : Nat) = 0) = False := eq_false (by omega)
 have nq20 : ((n + 1 + 1 : Nat) = L + 1) = False := eq_false (by omega)
 have nq21 : ((n + 1 + 1 : Nat) = n + 1) = False := eq_false (by omega)
 have nq23 : ((n + 1 + 1 : Nat) = 0) = False := eq_false (by omega)
 have nq30 : ((0 : Nat) = L + 1) = False := eq_false (by omega)
 have nq31 : ((0 : Nat) = n + 1) = False := eq_false (by omega)
 have nq32 : ((0 : Nat) = n + 1 + 1) = False := eq_false (by omega)
 have nk1 : ∀ k : Nat, ((L + 1 : Nat) = n + 1 + 1 + k + 1) = False := fun k => eq_false (by omega)
 have nk2 : ∀ k : Nat, ((n + 1 + 1 + k + 1 : Nat) = L + 1) = False := fun k => eq_false (by omega)
 have nk3 : ∀ k : Nat, ((L + 1 : Nat) = n + 1 + 1 + k + 1 + 1) = False := fun k => eq_false (by omega)
 have nk4 : ∀ k : Nat, ((n + 1 + 1 + k + 1 + 1 : Nat) = L + 1) = False := fun k => eq_false (by omega)
 have nk5 : ∀ k : Nat, ((L + 1 : Nat) = n + 1 + 1 + k + 1 + 1 + 1) = False := fun k => eq_false (by omega)
 have nk6 : ∀ k : Nat, ((n + 1 + 1 + k + 1 + 1 + 1 : Nat) = L + 1) = False := fun k => eq_false (by omega)
 have nk7 : ∀ k : Nat, ((L + 1 : Nat) = n + 1 + 1 + k + 1 + 1 + 1 + 1) = False := fun k => eq_false (by omega)
 have nk8 : ∀ k : Nat, ((n + 1 + 1 + k + 1 + 1 + 1 + 1 : Nat) = L + 1) = False := fun k => eq_false (by omega)
 have nk9 : ∀ k : Nat, ((n + 1 : Nat) = n + 1 + 1 + k + 1) = False := fun k => eq_false (by omega)
 have nk10 : ∀ k : Nat, ((n + 1 + 1 + k + 1 : Nat) = n + 1) = False := fun k => eq_false (by omega)
 have nk11 : ∀ k : Nat, ((n + 1 : Nat) = n + 1 + 1 + k + 1 + 1) = False := fun k => eq_false (by omega)
 have nk12 : ∀ k : Nat, ((n + 1 + 1 + k + 1 + 1 : Nat) = n + 1) = False := fun k => eq_false (by omega)
 have nk13 : ∀ k : Nat, ((n + 1 : Nat) = n + 1 + 1 + k + 1 + 1 + 1) = False := fun k => eq_false (by omega)
 have nk14 : ∀ k : Nat, ((n + 1 + 1 + k + 1 + 1 + 1 : Nat) = n + 1) = False := fun k => eq_false (by omega)
 have nk15 : ∀ k : Nat, ((n + 1 : Nat) = n + 1 + 1 + k + 1 + 1 + 1 + 1) = False := fun k => eq_false (by omega)
 have nk16 : ∀ k : Nat, ((n + 1 + 1 + k + 1 + 1 + 1 + 1 : Nat) = n + 1) = False := fun k => eq_false (by omega)
 have nk17 : ∀ k : Nat, ((n + 1 + 1 : Nat) = n + 1 + 1 + k + 1) = False := fun k => eq_false (by omega)
 have nk18 : ∀ k : Nat, ((n + 1 + 1 + k + 1 : Nat) = n + 1 + 1) = False := fun k => eq_false (by omega)
 have nk19 : ∀ k : Nat, ((n + 1 + 1 : Nat) = n + 1 + 1 + k + 1 + 1) = False := fun k => eq_false (by omega)
 have nk20 : ∀ k : Nat, ((n + 1 + 1 + k + 1 + 1 : Nat) = n + 1 + 1) = False := fun k => eq_false (by omega)
 have nk21 : ∀ k : Nat, ((n + 1 + 1 : Nat) = n + 1 + 1 + k + 1 + 1 + 1) = False := fun k => eq_false (by omega)
 have nk22 : ∀ k : Nat, ((n + 1 + 1 + k + 1 + 1 + 1 : Nat) = n + 1 + 1) = False := fun k => eq_false (by omega)
 have nk23 : ∀ k : Nat, ((n + 1 + 1 : Nat) = n + 1 + 1 + k + 1 + 1 + 1 + 1) = False := fun k => eq_false (by omega)
 have nk24 : ∀ k : Nat, ((n + 1 + 1 + k + 1 + 1 + 1 + 1 : Nat) = n + 1 + 1) = False := fun k => eq_false (by omega)
 have nk25 : ∀ k : Nat, ((0 : Nat) = n + 1 + 1 + k + 1) = False := fun k => eq_false (by omega)
 have nk26 : ∀ k : Nat, ((n + 1 + 1 + k + 1 : Nat) = 0) = False := fun k => eq_false (by omega)
 have nk27 : ∀ k : Nat, ((0 : Nat) = n + 1 + 1 + k + 1 + 1) = False := fun k => eq_false (by omega)
 have nk28 : ∀ k : Nat, ((n + 1 + 1 + k + 1 + 1 : Nat) = 0) = False := fun k => eq_false (by omega)
 have nk29 : ∀ k : Nat, ((0 : Nat) = n + 1 + 1 + k + 1 + 1 + 1) = False := fun k => eq_false (by omega)
 have nk30 : ∀ k : Nat, ((n + 1 + 1 + k + 1 + 1 + 1 : Nat) = 0) = False := fun k => eq_false (by omega)
 have nk31 : ∀ k : Nat, ((0 : Nat) = n + 1 + 1 + k + 1 + 1 + 1 + 1) = False := fun k => eq_false (by omega)
 have nk32 : ∀ k : Nat, ((n + 1 + 1 + k + 1 + 1 + 1 + 1 : Nat) = 0) = False := fun k => eq_false (by omega)
 have nk33 : ∀ k : Nat, ((n + 1 + 1 + k + 1 : Nat) = n + 1 + 1 + k + 1 + 1) = False := fun k => eq_false (by omega)
 have nk34 : ∀ k : Nat, ((n + 1 + 1 + k + 1 : Nat) = n + 1 + 1 + k + 1 + 1 + 1) = False := fun k => eq_false (by omega)
 have nk35 : ∀ k : Nat, ((n + 1 + 1 + k + 1 : Nat) = n + 1 + 1 + k + 1 + 1 + 1 + 1) = False := fun k => eq_false (by omega)
 have nk36 : ∀ k : Nat, ((n + 1 + 1 + k + 1 + 1 : Nat) = n + 1 + 1 + k + 1) = False := fun k => eq_false (by omega)
 have nk37 : ∀ k : Nat, ((n + 1 + 1 + k + 1 + 1 : Nat) = n + 1 + 1 + k + 1 + 1 + 1) = False := fun k => eq_false (by omega)
 have nk38 : ∀ k : Nat, ((n + 1 + 1 + k + 1 + 1 : Nat) = n + 1 + 1 + k + 1 + 1 + 1 + 1) = False := fun k => eq_false (by omega)
 have nk39 : ∀ k : Nat, ((n + 1 + 1 + k + 1 + 1 + 1 : Nat) = n + 1 + 1 + k + 1) = False := fun k => eq_false (by omega)
 have nk40 : ∀ k : Nat, ((n + 1 + 1 + k + 1 + 1 + 1 : Nat) = n + 1 + 1 + k + 1 + 1) = False := fun k => eq_false (by omega)
 have nk41 : ∀ k : Nat, ((n + 1 + 1 + k + 1 + 1 + 1 : Nat) = n + 1 + 1 + k + 1 + 1 + 1 + 1) = False := fun k => eq_false (by omega)
 have nk42 : ∀ k : Nat, ((n + 1 + 1 + k + 1 + 1 + 1 + 1 : Nat) = n + 1 + 1 + k + 1) = False := fun k => eq_false (by omega)
 have nk43 : ∀ k : Nat, ((n + 1 + 1 + k + 1 + 1 + 1 + 1 : Nat) = n + 1 + 1 + k + 1 + 1) = False := fun k => eq_false (by omega)
 have nk44 : ∀ k : Nat, ((n + 1 + 1 + k + 1 + 1 + 1 + 1 : Nat) = n + 1 + 1 + k + 1 + 1 + 1) = False := fun k => eq_false (by omega)
 refine OkCall.enter' tab_ok Tryz.func146 rfl (t := [.ptr (L + 1) 0 0 (cCur c), .agg (cStore s), .int .i64 (m : Int), .int .i64 (base : Int), .any, .any, .any, .any, .any, .any, .any, .any, .any, .any, .any, .any, .any, .any, .any, .any, .any, .any, .any, .any, .any, .any, .any, .any, .any, .any, .any, .any, .any, .any, .any, .any, .any, .any, .any, .any, .any, .any, .any, .any, .any, .any, .any, .any, .any, .any, .any, .any, .any, .any, .any, .any, .any, .any, .any, .any, .any, .any, .any, .any, .any, .any, .any, .any, .any, .any, .any, .any, .any, .any, .any, .any, .any, .any, .any, .any, .any, .any, .any, .any, .any, .any, .any, .any, .any, .any, .any, .any, .any, .any, .any, .any, .any, .any, .any, .any, .any, .any, .any, .any, .any, .any, .any, .any, .any, .any, .any, .any, .any, .any, .any, .any, .any, .any, .any, .any, .any, .any, .any, .any, .any, .any, .any]) rfl ?_
 refine OQ ?_
 iterate 2 (refine EV ?_)
 refine ON ?_
 refine Ok.seq ?_
 refine OQ ?_
 refine EV ?_
 refine ON ?_
 refine Ok.block ?_
 refine Ok.loopHN (τ := Nat × Store × Cur × Nat) (fun x => [(0, .ptr (L + 1) 0 0 (cCur x.2.2.1)), (5, .ptr (n + 1) 0 0 (cStore x.2.1)), (9, .int .i64 (x.1 : Int))]) [10, 11, 12, 13, 14, 15, 16, 17, 18, 19, 20, 21, 22, 23, 24, 25, 26, 27, 28, 29, 30, 31, 32, 33, 34, 35, 36, 37, 38, 39, 40, 41, 42, 43, 44, 45, 46, 47, 48, 49, 50, 51, 52, 53, 54, 55, 56, 57, 58, 59, 60, 61, 62, 63, 64, 65, 66, 67, 68, 69, 70, 71, 72, 73, 74, 75, 76, 77, 78, 79, 80, 81, 82, 83, 84, 85, 86, 87, 88, 89, 90, 91, 92, 93, 94, 95, 96, 97, 98, 99, 100, 101, 102, 103, 104, 105, 106, 107, 108, 109, 110, 111, 112, 113, 114, 115, 116, 117, 118, 119, 120, 121, 122, 123, 124, 125] (fun x => by simp only [kover] <;> rfl) (fun x => V.updL (L + 1) 0 (cCur x.2.2.1) h) (fun x => n + 1 + 1 + x.2.2.2 + 1) (fun x => x.1 ≤ m ∧ storeOk x.2.1 = true ∧ x.2.1.by_ = s.by_ ∧ x.2.2.1.b = c.b ∧ x.2.2.2 ≤ 20 * x.1) (fun x => m - x.1) (0, s, c, 0) (by (repeat (first | exact trivial | refine leC ?_ | refine leK ?_ ?_)) <;> first | (first | exact le_rfl' _ | exact le_eqm rfl) | exact le_rfl' _) (hfix.symm) ((by dsimp only; omega)) (⟨Nat.zero_le _, hs, rfl, rfl, Nat.le_refl _⟩) ?_
 rintro ⟨i, s1, cc, k⟩ ⟨h1, hs1, hby, hcb, hk⟩
 dsimp only at h1 hs1 hby hcb hk ⊢
 have hbc : cc.b.length ≤ 4611686018427387904 := by rw [hcb]; exact hb
 have hss := store_small hs1
 have hb5 := hss.boxes
 refine Ok.seq ?_
 refine OQ ?_
 iterate 3 (refine EV ?_)
 refine ON ?_
 refine OC (fun hb2 => ?_) (fun hb2 => ?_)
 ·
  try simp only [bsimp] at hb2
  refine Ok.skip ?_
  refine Ok.seq ?_
  refine Ok.block ?_
  refine OQ ?_
  refine EV ?_
  refine ON ?_
  refine OQ ?_
  refine EV ?_
  refine ON ?_
  refine Ok.join (τ := Int × Int × Cur × Nat) (fun x => [(0, .ptr (L + 1) 0 0 (cCur x.2.2.1)), (10, .int .i64 x.1), (11, .int .i64 x.2.1)]) [12, 19, 20, 21, 22, 23, 24, 25, 26, 27, 28, 29, 30, 31, 32, 33, 34, 35, 36, 37, 38, 39, 40, 41, 42, 43, 44, 45, 46, 47] (fun x => by simp only [kover] <;> rfl) (fun x => V.updL (L + 1) 0 (cCur x.2.2.1) h) (fun x => n + 1 + 1 + x.2.2.2 + 1) (fun x => x.2.2.1.b = c.b ∧ x.2.2.2 ≤ 20 * i + 4) ?_ ?_
  ·
   refine OQ ?_
   iterate 4 (refine EV ?_)
   refine ON ?_
   refine OC (fun hb6 => ?_) (fun hb6 => ?_)
   ·
    try simp only [bsimp] at hb6
    have hbl : 0 < s1.boxes.length := by omega
    have hp1 := curBelow_lt (c := cc) (n := s1.boxes.length) hbl
    refine Ok.seq ?_
    refine Ok.stages 127 [0, 1, 2, 3, 4, 5, 9] [(6, [0, 1, 9], [7, 8]), (10, [], [])] (by kernel_rfl) (by kernel_rfl) rfl ?_
    simp only [ixs, List.getElem?_toArray, List.getElem?_cons_zero, List.getElem?_cons_succ]
    iterate 7 (refine SV ?_)
    refine SOps.nil ?_
    refine Pend.updF (k := 0) (by simp only [List.getElem?_toArray, List.getElem?_cons_zero, List.getElem?_cons_succ] <;> rfl) (by rfl) (by rfl) (by simp only [kE, kT, kL, kC] <;> rfl) (by simp only [kE, kT, kL, kC] <;> rfl) cl105 (by intro y hy; simp [V.labelsL, V.labels, V.labelsLL, zz, zf, zy, lz] at hy; omega) (by repeat (first | exact hlt | exact hlt.mono (by omega) | refine Ahd.upd ?_ (Ahd.cur (by omega) _))) (fun h hlt => c_spec_l01Below cc s1.boxes.length L hbc hbl) (by first | rfl | (simp only [Nat.add_zero, Nat.reduceAdd] <;> rfl)) (by simp only [eq_self, V.updL, V.travL, V.travLL, V.trav, updS, updP, and_self, true_and, and_true, false_and, and_false, Nat.reduceEqDiff, Nat.reduceSub, Nat.le_refl, Nat.zero_le, ↓reduceIte, if_true, if_false, kP, zz, zf, zy, nq01, nq02, nq03, nq10, nq12, nq13, nq20, nq21, nq23, nq30, nq31, nq32, nk1, nk2, nk3, nk4, nk5, nk6, nk7, nk8, nk9, nk10, nk11, nk12, nk13, nk14, nk15, nk16, nk17, nk18, nk19, nk20, nk21, nk22, nk23, nk24, nk25, nk26, nk27, nk28, nk29, nk30, nk31, nk32, nk33, nk34, nk35, nk36, nk37, nk38, nk39, nk40, nk41, nk42, nk43, nk44] <;> rfl) (upd_twice (by simp [V.travL, V.trav, updS, zz, zf, zy]) h) ?_
    simp only [ixs, List.getElem?_toArray, List.getElem?_cons_zero, List.getElem?_cons_succ]
    refine SOps.ev tab_ok rfl (ev_idx_map (by simp only [kE, kT, kL, kC] <;> rfl) (by simp only [kE, kT, kL, kC] <;> rfl) (hp1) (by simp only [kE, kT, kL, kC] <;> rfl)) (by simp only [kP] <;> rfl) ?_
    refine SV ?_
    refine SOps.nil ⟨LateA.alloc (ia := 9) tab_ok (by rfl) (by rfl) (by rfl) (by show nth _ 12 = _; simp only [kE, kT, kL, kC] <;> rfl) (by (try simp only [List.getElem_toArray, List.getElem_cons_succ, List.getElem_cons_zero]); exact (by simp only [kE, kT, kL, kC] <;> rfl)) (by omega) (by omega) (fun hm => absurd (((by repeat (first | exact hlt | exact hlt.mono (by omega) | refine Ahd.upd ?_ (Ahd.cur (by omega) _))) : Ahd _ _) _ hm) (Nat.lt_irrefl _)) (by intro hm; simp [V.labelsL, V.labels, V.labelsLL, zz, zf, zy, lz] at hm <;> omega) (LateOk.cons (i := 0) tab_ok (by rfl) (by rfl) (by (try simp only [List.getElem_toArray, List.getElem_cons_succ, List.getElem_cons_zero]); exact (by simp only [kE, kT, kL, kC] <;> rfl)) (by show nth _ 23 = _; simp only [kE, kT, kL, kC] <;> rfl) (LateOk.cons (i := 1) tab_ok (by rfl) (by rfl) (by (try simp only [List.getElem_toArray, List.getElem_cons_succ, List.getElem_cons_zero]); exact (by simp only [kE, kT, kL, kC] <;> rfl)) (by show nth _ 24 = _; simp only [kE, kT, kL, kC] <;> rfl) LateOk.nil)) (by decide), ?_⟩
    refine Pend.store tab_ok (by simp only [List.getElem?_toArray, List.getElem?_cons_zero, List.getElem?_cons_succ] <;> rfl) (by rfl) (by rfl) (by rfl) (by simp only [kE, kT, kL, kC] <;> rfl) ⟨_, _, by simp only [kE]; rfl⟩ (by first | (simp [V.labelsL, V.labelsLL, V.labels, zz, zf, zy]; done) | (simp [-List.map_map, -List.map_set, -List.map_drop, -List.map_take, -List.map_tail, -List.drop_one, V.labelsL, V.labelsLL, V.labels, zz, zf, zy]; done)) (by simp only [eq_self, V.updL, V.travL, V.travLL, V.trav, updS, updP, and_self, true_and, and_true, false_and, and_false, Nat.reduceEqDiff, Nat.reduceSub, Nat.le_refl, Nat.zero_le, ↓reduceIte, if_true, if_false, kP, zz, zf, zy, nq01, nq02, nq03, nq10, nq12, nq13, nq20, nq21, nq23, nq30, nq31, nq32, nk1, nk2, nk3, nk4, nk5, nk6, nk7, nk8, nk9, nk10, nk11, nk12, nk13, nk14, nk15, nk16, nk17, nk18, nk19, nk20, nk21, nk22, nk23, nk24, nk25, nk26, nk27, nk28, nk29, nk30, nk31, nk32, nk33, nk34, nk35, nk36, nk37, nk38, nk39, nk40, nk41, nk42, nk43, nk44] <;> rfl) (Ahd.updL (by repeat (first | exact hlt | exact hlt.mono (by omega) | refine Ahd.upd ?_ (Ahd.cur (by omega) _)))) ?_
    simp only [ixs, List.getElem?_toArray, List.getElem?_cons_zero, List.getElem?_cons_succ]
    refine SOps.nil ⟨LateOk.A LateOk.nil (by omega), ?_⟩
    refine Pend.nil ?_
    refine OQ ?_
    iterate 3 (refine EV ?_)
    refine ON ?_
    refine OQ ?_
    iterate 4 (refine EV ?_)
    refine ON ?_
    refine OC (fun hb9 => ?_) (fun hb9 => ?_)
    ·
     try simp only [bsimp] at hb9
     have hml : 0 < (s1.boxes[(curBelow cc s1.boxes.length).1]'hp1).mails.length := by omega
     have hq1 := curBelow_lt (c := (curBelow cc s1.boxes.length).2) (n := (s1.boxes[(curBelow cc s1.boxes.length).1]'hp1).mails.length) hml
     refine Ok.stages 127 [0, 1, 2, 3, 4, 5] [(6, [0, 1], [7, 8, 9, 10])] (by kernel_rfl) (by kernel_rfl) rfl ?_
     simp only [ixs, List.getElem?_toArray, List.getElem?_cons_zero, List.getElem?_cons_succ]
     iterate 6 (refine SV ?_)
     refine SOps.nil ?_
     refine Pend.updF (k := 0) (by simp only [List.getElem?_toArray, List.getElem?_cons_zero, List.getElem?_cons_succ] <;> rfl) (by rfl) (by rfl) (by simp only [kE, kT, kL, kC] <;> rfl) (by simp only [kE, kT, kL, kC] <;> rfl) cl105 (by intro y hy; simp [V.labelsL, V.labels, V.labelsLL, zz, zf, zy, lz] at hy; omega) (by repeat (first | exact hlt | exact hlt.mono (by omega) | refine Ahd.upd ?_ (Ahd.cur (by omega) _))) (fun h hlt => c_spec_l01Below (curBelow cc s1.boxes.length).2 (s1.boxes[(curBelow cc s1.boxes.length).1]'hp1).mails.length L (by rw [curBelow_b]; exact hbc) hml) (by first | rfl | (simp only [Nat.add_zero, Nat.reduceAdd] <;> rfl)) (by simp only [eq_self, V.updL, V.travL, V.travLL, V.trav, updS, updP, and_self, true_and, and_true, false_and, and_false, Nat.reduceEqDiff, Nat.reduceSub, Nat.le_refl, Nat.zero_le, ↓reduceIte, if_true, if_false, kP, zz, zf, zy, nq01, nq02, nq03, nq10, nq12, nq13, nq20, nq21, nq23, nq30, nq31, nq32, nk1, nk2, nk3, nk4, nk5, nk6, nk7, nk8, nk9, nk10, nk11, nk12, nk13, nk14, nk15, nk16, nk17, nk18, nk19, nk20, nk21, nk22, nk23, nk24, nk25, nk26, nk27, nk28, nk29, nk30, nk31, nk32, nk33, nk34, nk35, nk36, nk37, nk38, nk39, nk40, nk41, nk42, nk43, nk44] <;> rfl) (upd_twice (by simp [V.travL, V.trav, updS, zz, zf, zy]) h) ?_
     simp only [ixs, List.getElem?_toArray, List.getElem?_cons_zero, List.getElem?_cons_succ]
     refine SOps.ev tab_ok rfl (ev_idx_map (by simp only [kE, kT, kL, kC] <;> rfl) (by simp only [kE, kT, kL, kC] <;> rfl) (hq1) (by simp only [kE, kT, kL, kC] <;> rfl)) (by simp only [kP] <;> rfl) ?_
     iterate 3 (refine SV ?_)
     refine SOps.nil ⟨LateOk.A (LateOk.cons (i := 0) tab_ok (by rfl) (by rfl) (by (try simp only [List.getElem_toArray, List.getElem_cons_succ, List.getElem_cons_zero]); exact (by simp only [kE, kT, kL, kC] <;> rfl)) (by show nth _ 38 = _; simp only [kE, kT, kL, kC] <;> rfl) (LateOk.cons (i := 1) tab_ok (by rfl) (by rfl) (by (try simp only [List.getElem_toArray, List.getElem_cons_succ, List.getElem_cons_zero]); exact (by simp only [kE, kT, kL, kC] <;> rfl)) (by show nth _ 39 = _; simp only [kE, kT, kL, kC] <;> rfl) LateOk.nil)) (by omega), ?_⟩
     refine Pend.nil ?_
     refine ⟨((s1.boxes[(curBelow cc s1.boxes.length).1]'hp1).gid, ((s1.boxes[(curBelow cc s1.boxes.length).1]'hp1).mails[(curBelow (curBelow cc s1.boxes.length).2 (s1.boxes[(curBelow cc s1.boxes.length).1]'hp1).mails.length).1]'hq1).gid, (curBelow (curBelow cc s1.boxes.length).2 (s1.boxes[(curBelow cc s1.boxes.length).1]'hp1).mails.length).2, k + 1), ?_, rfl, (by dsimp only; omega), ⟨by dsimp only; rw [curBelow_b, curBelow_b]; exact hcb, by dsimp only; omega⟩⟩
     (repeat (first | exact trivial | refine leC ?_ | refine leK ?_ ?_)) <;> first | (exact le_eqm rfl) | exact le_rfl' _
    try simp only [bsimp] at hb9
    refine Ok.skip ?_
    refine ⟨((s1.boxes[(curBelow cc s1.boxes.length).1]'hp1).gid, 0, (curBelow cc s1.boxes.length).2, k + 1), ?_, rfl, (by dsimp only; omega), ⟨by dsimp only; rw [curBelow_b]; exact hcb, by dsimp only; omega⟩⟩
    (repeat (first | exact trivial | refine leC ?_ | refine leK ?_ ?_)) <;> first | (exact le_eqm rfl) | exact le_rfl' _
   try simp only [bsimp] at hb6
   refine Ok.skip ?_
   refine ⟨(0, 0, cc, k), ?_, rfl, (by dsimp only; omega), ⟨hcb, by dsimp only; omega⟩⟩
   (repeat (first | exact trivial | refine leC ?_ | refine leK ?_ ?_)) <;> first | (exact le_eqm rfl) | exact le_rfl' _
  rintro ⟨bx, gd, c2, k2⟩ ⟨hc2, hk2⟩
  dsimp only at hc2 hk2 ⊢
  have hbc2 : c2.b.length ≤ 4611686018427387904 := by rw [hc2]; exact hb
  have hwb := base_add (b := base) (i := i) hbase (by omega)
  refine OQ ?_
  refine EV ?_
  refine OkOps.upd rfl rfl (by simp only [kE, kT, kL, kC] <;> rfl) (by simp only [kE, kT, kL, kC] <;> rfl) cl105 (fun h => c_spec_l01Below c2 12 L hbc2 (by decide)) (by simp only [eq_self, V.updL, V.travL, V.travLL, V.trav, updS, updP, and_self, true_and, and_true, false_and, and_false, Nat.reduceEqDiff, Nat.reduceSub, Nat.le_refl, Nat.zero_le, ↓reduceIte, if_true, if_false, kP, zz, zf, zy, nq01, nq02, nq03, nq10, nq12, nq13, nq20, nq21, nq23, nq30, nq31, nq32, nk1, nk2, nk3, nk4, nk5, nk6, nk7, nk8, nk9, nk10, nk11, nk12, nk13, nk14, nk15, nk16, nk17, nk18, nk19, nk20, nk21, nk22, nk23, nk24, nk25, nk26, nk27, nk28, nk29, nk30, nk31, nk32, nk33, nk34, nk35, nk36, nk37, nk38, nk39, nk40, nk41, nk42, nk43, nk44] <;> rfl) (upd_twice (by simp [V.travL, V.trav, updS, zz, zf, zy]) h) ?_
  refine EV ?_
  refine ON ?_
  refine Ok.block ?_
  refine OQ ?_
  iterate 3 (refine EV ?_)
  refine OP (d := 61) (fun hg14_2 => ?_) (fun hg14_2 => ?_)
  ·
   try simp only [bsimp] at hg14_2
   refine OU ?_
   refine OU ?_
   iterate 2 (refine EV ?_)
   refine ON ?_
   refine Ok.cond_true (by simp only [kE, kT, kL, kC] <;> rfl) ?_
   refine Ok.stages 127 [0, 1, 2, 3, 4, 5] [(6, [0, 1, 2, 3], [7, 8, 9, 10]), (11, [10], [])] (by kernel_rfl) (by kernel_rfl) rfl ?_
   simp only [ixs, List.getElem?_toArray, List.getElem?_cons_zero, List.getElem?_cons_succ]
   iterate 3 (refine SV ?_)
   refine SOps.ev tab_ok rfl (by simp only [kE, kT, kL, kC, hwb] <;> rfl) (by simp only [kP] <;> rfl) ?_
   refine SV ?_
   refine SOps.ev tab_ok rfl (ev_bs (by simp only [kT] <;> rfl) (by simp only [kT] <;> rfl) (by decide) (by decide) (by simp only [kE, kT, kL, kC, List.map_cons, List.map_nil] <;> rfl) (by simp only [kfe, beq_self_eq_true, Bool.and_true, Bool.true_and, decide_true, Nat.zero_add, Nat.lt_add_one, Nat.reduceLT, Nat.reduceAdd, Nat.zero_lt_succ, if_true, ↓reduceIte] <;> rfl)) (by simp only [kP] <;> rfl) ?_
   refine SOps.nil ?_
   refine Pend.updF (k := 0) (by simp only [List.getElem?_toArray, List.getElem?_cons_zero, List.getElem?_cons_succ] <;> rfl) (by rfl) (by rfl) (by simp only [kE, kT, kL, kC] <;> rfl) (by simp only [kE, kT, kL, kC] <;> rfl) cl107 (by intro y hy; simp [V.labelsL, V.labels, V.labelsLL, zz, zf, zy, lz] at hy; omega) (by repeat (first | exact hlt | exact hlt.mono (by omega) | refine Ahd.upd ?_ (Ahd.cur (by omega) _))) (fun h hlt => c_spec_l01Pick (curBelow c2 12).2 names1 L (n + 1 + 1 + k2 + 1) (by rw [curBelow_b]; exact hbc2) (by decide) (by omega)) (by first | rfl | (simp only [Nat.add_zero, Nat.reduceAdd] <;> rfl)) (by simp only [eq_self, V.updL, V.travL, V.travLL, V.trav, updS, updP, and_self, true_and, and_true, false_and, and_false, Nat.reduceEqDiff, Nat.reduceSub, Nat.le_refl, Nat.zero_le, ↓reduceIte, if_true, if_false, kP, zz, zf, zy, nq01, nq02, nq03, nq10, nq12, nq13, nq20, nq21, nq23, nq30, nq31, nq32, nk1, nk2, nk3, nk4, nk5, nk6, nk7, nk8, nk9, nk10, nk11, nk12, nk13, nk14, nk15, nk16, nk17, nk18, nk19, nk20, nk21, nk22, nk23, nk24, nk25, nk26, nk27, nk28, nk29, nk30, nk31, nk32, nk33, nk34, nk35, nk36, nk37, nk38, nk39, nk40, nk41, nk42, nk43, nk44] <;> rfl) (upd_twice (by simp [V.travL, V.trav, updS, zz, zf, zy]) h) ?_
   simp only [ixs, List.getElem?_toArray, List.getElem?_cons_zero, List.getElem?_cons_succ]
   refine SOps.S0 rfl (OpS.weakM rfl (by simp only [kE, kT, kL, kC] <;> rfl) (by simp only [kE, kT, kL, kC] <;> rfl) cl194 (w_spec_MakeBox s1 ((base : Int) + (i : Int)) (pickS (curBelow c2 12).2 names1).1 (store_sm hs1) (Nat.le_trans (pick_len (m := 5) (by decide) (by decide)) (by decide)))) (by simp only [kP] <;> rfl) ?_
   iterate 3 (refine SV ?_)
   refine SOps.nil ⟨LateOk.A (LateOk.cons (i := 0) tab_ok (by rfl) (by rfl) (by (try simp only [List.getElem_toArray, List.getElem_cons_succ, List.getElem_cons_zero]); exact (by simp only [kE, kT, kL, kC] <;> rfl)) (by show nth _ 66 = _; simp only [kE, kT, kL, kC] <;> rfl) (LateOk.cons (i := 1) tab_ok (by rfl) (by rfl) (by (try simp only [List.getElem_toArray, List.getElem_cons_succ, List.getElem_cons_zero]); exact (by simp only [kE, kT, kL, kC] <;> rfl)) (by show nth _ 67 = _; simp only [kE, kT, kL, kC] <;> rfl) (LateOk.cons (i := 2) tab_ok (by rfl) (by rfl) (by (try simp only [List.getElem_toArray, List.getElem_cons_succ, List.getElem_cons_zero]); exact (by simp only [kE, kT, kL, kC] <;> rfl)) (by show nth _ 68 = _; simp only [kE, kT, kL, kC] <;> rfl) (LateOk.cons (i := 3) tab_ok (by rfl) (by rfl) (by (try simp only [List.getElem_toArray, List.getElem_cons_succ, List.getElem_cons_zero]); exact (by simp only [kE, kT, kL, kC, hwb] <;> rfl)) (by show nth _ 69 = _; simp only [kE, kT, kL, kC, hwb] <;> rfl) LateOk.nil)))) (by omega), ?_⟩
   refine Pend.store tab_ok (by simp only [List.getElem?_toArray, List.getElem?_cons_zero, List.getElem?_cons_succ] <;> rfl) (by rfl) (by rfl) (by rfl) (by simp only [kE, kT, kL, kC] <;> rfl) ⟨_, _, by simp only [kE]; rfl⟩ (by first | (simp [V.labelsL, V.labelsLL, V.labels, zz, zf, zy]; done) | (simp [-List.map_map, -List.map_set, -List.map_drop, -List.map_take, -List.map_tail, -List.drop_one, V.labelsL, V.labelsLL, V.labels, zz, zf, zy]; done)) (by simp only [eq_self, V.updL, V.travL, V.travLL, V.trav, updS, updP, and_self, true_and, and_true, false_and, and_false, Nat.reduceEqDiff, Nat.reduceSub, Nat.le_refl, Nat.zero_le, ↓reduceIte, if_true, if_false, kP, zz, zf, zy, nq01, nq02, nq03, nq10, nq12, nq13, nq20, nq21, nq23, nq30, nq31, nq32, nk1, nk2, nk3, nk4, nk5, nk6, nk7, nk8, nk9, nk10, nk11, nk12, nk13, nk14, nk15, nk16, nk17, nk18, nk19, nk20, nk21, nk22, nk23, nk24, nk25, nk26, nk27, nk28, nk29, nk30, nk31, nk32, nk33, nk34, nk35, nk36, nk37, nk38, nk39, nk40, nk41, nk42, nk43, nk44] <;> rfl) (Ahd.updL (by repeat (first | exact hlt | exact hlt.mono (by omega) | refine Ahd.upd ?_ (Ahd.cur (by omega) _)))) ?_
   simp only [ixs, List.getElem?_toArray, List.getElem?_cons_zero, List.getElem?_cons_succ]
   refine SOps.nil ⟨LateOk.A (LateOk.cons (i := 10) tab_ok (by rfl) (by rfl) (by (try simp only [List.getElem_toArray, List.getElem_cons_succ, List.getElem_cons_zero]); exact (by simp only [kE, kT, kL, kC] <;> rfl)) (by show nth _ 75 = _; simp only [kE, kT, kL, kC] <;> rfl) LateOk.nil) (by omega), ?_⟩
   refine Pend.nil ?_
   refine Ok.region ?_
   iterate 3 (refine EV ?_)
   refine ON ?_
   refine ⟨(i + 1, (makeBox s1 ((base : Int) + (i : Int)) (pickS (curBelow c2 12).2 names1).1).1, (pickS (curBelow c2 12).2 names1).2, k2 + 4), ?_, rfl, (by dsimp only; omega), ⟨by dsimp only; omega, (makeBox_ok _ _ hs1).1, (makeBox_ok _ _ hs1).2.trans hby, by dsimp only; simp only [curBelow_b, pickS_b]; exact hc2, by dsimp only; omega⟩, by dsimp only; omega⟩
   (repeat (first | exact trivial | refine leC ?_ | refine leK ?_ ?_)) <;> first | (first | exact le_rfl' _ | (rw [wrap_succ (by omega)]; exact le_rfl' _)) | exact le_rfl' _
  try simp only [bsimp] at hg14_2
  refine OX ?_
  refine OO ?_
  iterate 3 (refine EV ?_)
  refine ON ?_
  refine OC (fun hb14 => ?_) (fun hb14 => ?_)
  ·
   try simp only [bsimp] at hb14
   refine Ok.stages 127 [0, 1, 2, 3, 4, 5] [(6, [0, 1, 2, 3], [7, 8, 9, 10]), (11, [10], [])] (by kernel_rfl) (by kernel_rfl) rfl ?_
   simp only [ixs, List.getElem?_toArray, List.getElem?_cons_zero, List.getElem?_cons_succ]
   iterate 3 (refine SV ?_)
   refine SOps.ev tab_ok rfl (by simp only [kE, kT, kL, kC, hwb] <;> rfl) (by simp only [kP] <;> rfl) ?_
   refine SV ?_
   refine SOps.ev tab_ok rfl (ev_bs (by simp only [kT] <;> rfl) (by simp only [kT] <;> rfl) (by decide) (by decide) (by simp only [kE, kT, kL, kC, List.map_cons, List.map_nil] <;> rfl) (by simp only [kfe, beq_self_eq_true, Bool.and_true, Bool.true_and, decide_true, Nat.zero_add, Nat.lt_add_one, Nat.reduceLT, Nat.reduceAdd, Nat.zero_lt_succ, if_true, ↓reduceIte] <;> rfl)) (by simp only [kP] <;> rfl) ?_
   refine SOps.nil ?_
   refine Pend.updF (k := 0) (by simp only [List.getElem?_toArray, List.getElem?_cons_zero, List.getElem?_cons_succ] <;> rfl) (by rfl) (by rfl) (by simp only [kE, kT, kL, kC] <;> rfl) (by simp only [kE, kT, kL, kC] <;> rfl) cl107 (by intro y hy; simp [V.labelsL, V.labels, V.labelsLL, zz, zf, zy, lz] at hy; omega) (by repeat (first | exact hlt | exact hlt.mono (by omega) | refine Ahd.upd ?_ (Ahd.cur (by omega) _))) (fun h hlt => c_spec_l01Pick (curBelow c2 12).2 names1 L (n + 1 + 1 + k2 + 1) (by rw [curBelow_b]; exact hbc2) (by decide) (by omega)) (by first | rfl | (simp only [Nat.add_zero, Nat.reduceAdd] <;> rfl)) (by simp only [eq_self, V.updL, V.travL, V.travLL, V.trav, updS, updP, and_self, true_and, and_true, false_and, and_false, Nat.reduceEqDiff, Nat.reduceSub, Nat.le_refl, Nat.zero_le, ↓reduceIte, if_true, if_false, kP, zz, zf, zy, nq01, nq02, nq03, nq10, nq12, nq13, nq20, nq21, nq23, nq30, nq31, nq32, nk1, nk2, nk3, nk4, nk5, nk6, nk7, nk8, nk9, nk10, nk11, nk12, nk13, nk14, nk15, nk16, nk17, nk18, nk19, nk20, nk21, nk22, nk23, nk24, nk25, nk26, nk27, nk28, nk29, nk30, nk31, nk32, nk33, nk34, nk35, nk36, nk37, nk38, nk39, nk40, nk41, nk42, nk43, nk44] <;> rfl) (upd_twice (by simp [V.travL, V.trav, updS, zz, zf, zy]) h) ?_
   simp only [ixs, List.getElem?_toArray, List.getElem?_cons_zero, List.getElem?_cons_succ]
   refine SOps.S0 rfl (OpS.weakM rfl (by simp only [kE, kT, kL, kC] <;> rfl) (by simp only [kE, kT, kL, kC] <;> rfl) cl194 (w_spec_MakeBox s1 ((base : Int) + (i : Int)) (pickS (curBelow c2 12).2 names1).1 (store_sm hs1) (Nat.le_trans (pick_len (m := 5) (by decide) (by decide)) (by decide)))) (by simp only [kP] <;> rfl) ?_
   iterate 3 (refine SV ?_)
   refine SOps.nil ⟨LateOk.A (LateOk.cons (i := 0) tab_ok (by rfl) (by rfl) (by (try simp only [List.getElem_toArray, List.getElem_cons_succ, List.getElem_cons_zero]); exact (by simp only [kE, kT, kL, kC] <;> rfl)) (by show nth _ 66 = _; simp only [kE, kT, kL, kC] <;> rfl) (LateOk.cons (i := 1) tab_ok (by rfl) (by rfl) (by (try simp only [List.getElem_toArray, List.getElem_cons_succ, List.getElem_cons_zero]); exact (by simp only [kE, kT, kL, kC] <;> rfl)) (by show nth _ 67 = _; simp only [kE, kT, kL, kC] <;> rfl) (LateOk.cons (i := 2) tab_ok (by rfl) (by rfl) (by (try simp only [List.getElem_toArray, List.getElem_cons_succ, List.getElem_cons_zero]); exact (by simp only [kE, kT, kL, kC] <;> rfl)) (by show nth _ 68 = _; simp only [kE, kT, kL, kC] <;> rfl) (LateOk.cons (i := 3) tab_ok (by rfl) (by rfl) (by (try simp only [List.getElem_toArray, List.getElem_cons_succ, List.getElem_cons_zero]); exact (by simp only [kE, kT, kL, kC, hwb] <;> rfl)) (by show nth _ 69 = _; simp only [kE, kT, kL, kC, hwb] <;> rfl) LateOk.nil)))) (by omega), ?_⟩
   refine Pend.store tab_ok (by simp only [List.getElem?_toArray, List.getElem?_cons_zero, List.getElem?_cons_succ] <;> rfl) (by rfl) (by rfl) (by rfl) (by simp only [kE, kT, kL, kC] <;> rfl) ⟨_, _, by simp only [kE]; rfl⟩ (by first | (simp [V.labelsL, V.labelsLL, V.labels, zz, zf, zy]; done) | (simp [-List.map_map, -List.map_set, -List.map_drop, -List.map_take, -List.map_tail, -List.drop_one, V.labelsL, V.labelsLL, V.labels, zz, zf, zy]; done)) (by simp only [eq_self, V.updL, V.travL, V.travLL, V.trav, updS, updP, and_self, true_and, and_true, false_and, and_false, Nat.reduceEqDiff, Nat.reduceSub, Nat.le_refl, Nat.zero_le, ↓reduceIte, if_true, if_false, kP, zz, zf, zy, nq01, nq02, nq03, nq10, nq12, nq13, nq20, nq21, nq23, nq30, nq31, nq32, nk1, nk2, nk3, nk4, nk5, nk6, nk7, nk8, nk9, nk10, nk11, nk12, nk13, nk14, nk15, nk16, nk17, nk18, nk19, nk20, nk21, nk22, nk23, nk24, nk25, nk26, nk27, nk28, nk29, nk30, nk31, nk32, nk33, nk34, nk35, nk36, nk37, nk38, nk39, nk40, nk41, nk42, nk43, nk44] <;> rfl) (Ahd.updL (by repeat (first | exact hlt | exact hlt.mono (by omega) | refine Ahd.upd ?_ (Ahd.cur (by omega) _)))) ?_
   simp only [ixs, List.getElem?_toArray, List.getElem?_cons_zero, List.getElem?_cons_succ]
   refine SOps.nil ⟨LateOk.A (LateOk.cons (i := 10) tab_ok (by rfl) (by rfl) (by (try simp only [List.getElem_toArray, List.getElem_cons_succ, List.getElem_cons_zero]); exact (by simp only [kE, kT, kL, kC] <;> rfl)) (by show nth _ 75 = _; simp only [kE, kT, kL, kC] <;> rfl) LateOk.nil) (by omega), ?_⟩
   refine Pend.nil ?_
   refine Ok.region ?_
   iterate 3 (refine EV ?_)
   refine ON ?_
   refine ⟨(i + 1, (makeBox s1 ((base : Int) + (i : Int)) (pickS (curBelow c2 12).2 names1).1).1, (pickS (curBelow c2 12).2 names1).2, k2 + 4), ?_, rfl, (by dsimp only; omega), ⟨by dsimp only; omega, (makeBox_ok _ _ hs1).1, (makeBox_ok _ _ hs1).2.trans hby, by dsimp only; simp only [curBelow_b, pickS_b]; exact hc2, by dsimp only; omega⟩, by dsimp only; omega⟩
   (repeat (first | exact trivial | refine leC ?_ | refine leK ?_ ?_)) <;> first | (first | exact le_rfl' _ | (rw [wrap_succ (by omega)]; exact le_rfl' _)) | exact le_rfl' _
  try simp only [bsimp] at hb14
  refine OQ ?_
  iterate 3 (refine EV ?_)
  refine ON ?_
  refine OC (fun hb16 => ?_) (fun hb16 => ?_)
  ·
   try simp only [bsimp] at hb16
   refine Ok.stages 127 [0, 1, 2, 3, 4, 5, 7] [(6, [0, 1, 2, 3, 4, 7], []), (8, [0, 1, 2, 3, 4], [9, 10, 11, 12]), (13, [12], [])] (by kernel_rfl) (by kernel_rfl) rfl ?_
   simp only [ixs, List.getElem?_toArray, List.getElem?_cons_zero, List.getElem?_cons_succ]
   iterate 4 (refine SV ?_)
   refine SOps.ev tab_ok rfl (by simp only [kE, kT, kL, kC, hwb] <;> rfl) (by simp only [kP] <;> rfl) ?_
   iterate 2 (refine SV ?_)
   refine SOps.nil ?_
   refine Pend.updF (k := 0) (by simp only [List.getElem?_toArray, List.getElem?_cons_zero, List.getElem?_cons_succ] <;> rfl) (by rfl) (by rfl) (by simp only [kE, kT, kL, kC] <;> rfl) (by simp only [kE, kT, kL, kC] <;> rfl) cl105 (by intro y hy; simp [V.labelsL, V.labels, V.labelsLL, zz, zf, zy, lz] at hy; omega) (by repeat (first | exact hlt | exact hlt.mono (by omega) | refine Ahd.upd ?_ (Ahd.cur (by omega) _))) (fun h hlt => c_spec_l01Below (curBelow c2 12).2 8 L (by rw [curBelow_b]; exact hbc2) (by decide)) (by first | rfl | (simp only [Nat.add_zero, Nat.reduceAdd] <;> rfl)) (by simp only [eq_self, V.updL, V.travL, V.travLL, V.trav, updS, updP, and_self, true_and, and_true, false_and, and_false, Nat.reduceEqDiff, Nat.reduceSub, Nat.le_refl, Nat.zero_le, ↓reduceIte, if_true, if_false, kP, zz, zf, zy, nq01, nq02, nq03, nq10, nq12, nq13, nq20, nq21, nq23, nq30, nq31, nq32, nk1, nk2, nk3, nk4, nk5, nk6, nk7, nk8, nk9, nk10, nk11, nk12, nk13, nk14, nk15, nk16, nk17, nk18, nk19, nk20, nk21, nk22, nk23, nk24, nk25, nk26, nk27, nk28, nk29, nk30, nk31, nk32, nk33, nk34, nk35, nk36, nk37, nk38, nk39, nk40, nk41, nk42, nk43, nk44] <;> rfl) (upd_twice (by simp [V.travL, V.trav, updS, zz, zf, zy]) h) ?_
   simp only [ixs, List.getElem?_toArray, List.getElem?_cons_zero, List.getElem?_cons_succ]
   refine SOps.nil ⟨LateOk.A (LateOk.cons (i := 0) tab_ok (by rfl) (by rfl) (by (try simp only [List.getElem_toArray, List.getElem_cons_succ, List.getElem_cons_zero]); exact (by simp only [kE, kT, kL, kC] <;> rfl)) (by show nth _ 80 = _; simp only [kE, kT, kL, kC] <;> rfl) (LateOk.cons (i := 1) tab_ok (by rfl) (by rfl) (by (try simp only [List.getElem_toArray, List.getElem_cons_succ, List.getElem_cons_zero]); exact (by simp only [kE, kT, kL, kC] <;> rfl)) (by show nth _ 81 = _; simp only [kE, kT, kL, kC] <;> rfl) (LateOk.cons (i := 2) tab_ok (by rfl) (by rfl) (by (try simp only [List.getElem_toArray, List.getElem_cons_succ, List.getElem_cons_zero]); exact (by simp only [kE, kT, kL, kC] <;> rfl)) (by show nth _ 82 = _; simp only [kE, kT, kL, kC] <;> rfl) (LateOk.cons (i := 3) tab_ok (by rfl) (by rfl) (by (try simp only [List.getElem_toArray, List.getElem_cons_succ, List.getElem_cons_zero]); exact (by simp only [kE, kT, kL, kC] <;> rfl)) (by show nth _ 83 = _; simp only [kE, kT, kL, kC] <;> rfl) (LateOk.cons (i := 4) tab_ok (by rfl) (by rfl) (by (try simp only [List.getElem_toArray, List.getElem_cons_succ, List.getElem_cons_zero]); exact (by simp only [kE, kT, kL, kC, hwb] <;> rfl)) (by show nth _ 84 = _; simp only [kE, kT, kL, kC, hwb] <;> rfl) (LateOk.cons (i := 7) tab_ok (by rfl) (by rfl) (by (try simp only [List.getElem_toArray, List.getElem_cons_succ, List.getElem_cons_zero]); exact (by simp only [kE, kT, kL, kC] <;> rfl)) (by show nth _ 87 = _; simp only [kE, kT, kL, kC] <;> rfl) LateOk.nil)))))) (by omega), ?_⟩
   refine Pend.updF (k := 1) (by simp only [List.getElem?_toArray, List.getElem?_cons_zero, List.getElem?_cons_succ] <;> rfl) (by rfl) (by rfl) (by simp only [kE, kT, kL, kC] <;> rfl) (by simp only [kE, kT, kL, kC] <;> rfl) cl196 (by intro y hy; simp [V.labelsL, V.labels, V.labelsLL, zz, zf, zy, lz] at hy; omega) (by repeat (first | exact hlt | exact hlt.mono (by omega) | refine Ahd.upd ?_ (Ahd.cur (by omega) _))) (fun h hlt => c_spec_l05Text (curBelow (curBelow c2 12).2 8).2 L (by rw [curBelow_b, curBelow_b]; exact hbc2) hlt (by omega)) (by first | rfl | (simp only [Nat.add_zero, Nat.reduceAdd] <;> rfl)) (by simp only [eq_self, V.updL, V.travL, V.travLL, V.trav, updS, updP, and_self, true_and, and_true, false_and, and_false, Nat.reduceEqDiff, Nat.reduceSub, Nat.le_refl, Nat.zero_le, ↓reduceIte, if_true, if_false, kP, zz, zf, zy, nq01, nq02, nq03, nq10, nq12, nq13, nq20, nq21, nq23, nq30, nq31, nq32, nk1, nk2, nk3, nk4, nk5, nk6, nk7, nk8, nk9, nk10, nk11, nk12, nk13, nk14, nk15, nk16, nk17, nk18, nk19, nk20, nk21, nk22, nk23, nk24, nk25, nk26, nk27, nk28, nk29, nk30, nk31, nk32, nk33, nk34, nk35, nk36, nk37, nk38, nk39, nk40, nk41, nk42, nk43, nk44] <;> rfl) (upd_twice (by simp [V.travL, V.trav, updS, zz, zf, zy]) h) ?_
   simp only [ixs, List.getElem?_toArray, List.getElem?_cons_zero, List.getElem?_cons_succ]
   refine SOps.S0 rfl (OpS.weakM rfl (by simp only [kE, kT, kL, kC] <;> rfl) (by simp only [kE, kT, kL, kC] <;> rfl) cl195 (w_spec_PutMail s1 bx ((base : Int) + (i : Int)) ((curBelow (curBelow c2 12).2 8).1 : Int) (pickS (curBelow (curBelow c2 12).2 8).2 textsL).1 (store_sm hs1) (Nat.le_trans (pick_len (m := 10) (by decide) (by decide)) (by decide)))) (by simp only [kP] <;> rfl) ?_
   iterate 3 (refine SV ?_)
   refine SOps.nil ⟨LateOk.A (LateOk.cons (i := 0) tab_ok (by rfl) (by rfl) (by (try simp only [List.getElem_toArray, List.getElem_cons_succ, List.getElem_cons_zero]); exact (by simp only [kE, kT, kL, kC] <;> rfl)) (by show nth _ 80 = _; simp only [kE, kT, kL, kC] <;> rfl) (LateOk.cons (i := 1) tab_ok (by rfl) (by rfl) (by (try simp only [List.getElem_toArray, List.getElem_cons_succ, List.getElem_cons_zero]); exact (by simp only [kE, kT, kL, kC] <;> rfl)) (by show nth _ 81 = _; simp only [kE, kT, kL, kC] <;> rfl) (LateOk.cons (i := 2) tab_ok (by rfl) (by rfl) (by (try simp only [List.getElem_toArray, List.getElem_cons_succ, List.getElem_cons_zero]); exact (by simp only [kE, kT, kL, kC] <;> rfl)) (by show nth _ 82 = _; simp only [kE, kT, kL, kC] <;> rfl) (LateOk.cons (i := 3) tab_ok (by rfl) (by rfl) (by (try simp only [List.getElem_toArray, List.getElem_cons_succ, List.getElem_cons_zero]); exact (by simp only [kE, kT, kL, kC] <;> rfl)) (by show nth _ 83 = _; simp only [kE, kT, kL, kC] <;> rfl) (LateOk.cons (i := 4) tab_ok (by rfl) (by rfl) (by (try simp only [List.getElem_toArray, List.getElem_cons_succ, List.getElem_cons_zero]); exact (by simp only [kE, kT, kL, kC, hwb] <;> rfl)) (by show nth _ 84 = _; simp only [kE, kT, kL, kC, hwb] <;> rfl) LateOk.nil))))) (by omega), ?_⟩
   refine Pend.store tab_ok (by simp only [List.getElem?_toArray, List.getElem?_cons_zero, List.getElem?_cons_succ] <;> rfl) (by rfl) (by rfl) (by rfl) (by simp only [kE, kT, kL, kC] <;> rfl) ⟨_, _, by simp only [kE]; rfl⟩ (by first | (simp [V.labelsL, V.labelsLL, V.labels, zz, zf, zy]; done) | (simp [-List.map_map, -List.map_set, -List.map_drop, -List.map_take, -List.map_tail, -List.drop_one, V.labelsL, V.labelsLL, V.labels, zz, zf, zy]; done)) (by simp only [eq_self, V.updL, V.travL, V.travLL, V.trav, updS, updP, and_self, true_and, and_true, false_and, and_false, Nat.reduceEqDiff, Nat.reduceSub, Nat.le_refl, Nat.zero_le, ↓reduceIte, if_true, if_false, kP, zz, zf, zy, nq01, nq02, nq03, nq10, nq12, nq13, nq20, nq21, nq23, nq30, nq31, nq32, nk1, nk2, nk3, nk4, nk5, nk6, nk7, nk8, nk9, nk10, nk11, nk12, nk13, nk14, nk15, nk16, nk17, nk18, nk19, nk20, nk21, nk22, nk23, nk24, nk25, nk26, nk27, nk28, nk29, nk30, nk31, nk32, nk33, nk34, nk35, nk36, nk37, nk38, nk39, nk40, nk41, nk42, nk43, nk44] <;> rfl) (Ahd.updL (by repeat (first | exact hlt | exact hlt.mono (by omega) | refine Ahd.upd ?_ (Ahd.cur (by omega) _)))) ?_
   simp only [ixs, List.getElem?_toArray, List.getElem?_cons_zero, List.getElem?_cons_succ]
   refine SOps.nil ⟨LateOk.A (LateOk.cons (i := 12) tab_ok (by rfl) (by rfl) (by (try simp only [List.getElem_toArray, List.getElem_cons_succ, List.getElem_cons_zero]); exact (by simp only [kE, kT, kL, kC] <;> rfl)) (by show nth _ 91 = _; simp only [kE, kT, kL, kC] <;> rfl) LateOk.nil) (by omega), ?_⟩
   refine Pend.nil ?_
   refine Ok.region ?_
   iterate 3 (refine EV ?_)
   refine ON ?_
   refine ⟨(i + 1, (putMail s1 bx ((base : Int) + (i : Int)) ((curBelow (curBelow c2 12).2 8).1 : Int) (pickS (curBelow (curBelow c2 12).2 8).2 textsL).1).1, (pickS (curBelow (curBelow c2 12).2 8).2 textsL).2, k2 + 4), ?_, rfl, (by dsimp only; omega), ⟨by dsimp only; omega, (putMail_ok _ _ _ _ hs1).1, (putMail_ok _ _ _ _ hs1).2.trans hby, by dsimp only; simp only [curBelow_b, pickS_b, curBelow_b]; exact hc2, by dsimp only; omega⟩, by dsimp only; omega⟩
   (repeat (first | exact trivial | refine leC ?_ | refine leK ?_ ?_)) <;> first | (first | exact le_rfl' _ | (rw [wrap_succ (by omega)]; exact le_rfl' _)) | exact le_rfl' _
  try simp only [bsimp] at hb16
  refine OQ ?_
  iterate 3 (refine EV ?_)
  refine ON ?_
  refine OC (fun hb18 => ?_) (fun hb18 => ?_)
  ·
   try simp only [bsimp] at hb18
   refine Ok.stages 127 [0, 1, 2, 3] [(4, [0, 1, 2], [5, 6, 7, 8]), (9, [8], [])] (by kernel_rfl) (by kernel_rfl) rfl ?_
   simp only [ixs, List.getElem?_toArray, List.getElem?_cons_zero, List.getElem?_cons_succ]
   iterate 4 (refine SV ?_)
   refine SOps.nil ?_
   refine Pend.updF (k := 0) (by simp only [List.getElem?_toArray, List.getElem?_cons_zero, List.getElem?_cons_succ] <;> rfl) (by rfl) (by rfl) (by simp only [kE, kT, kL, kC] <;> rfl) (by simp only [kE, kT, kL, kC] <;> rfl) cl105 (by intro y hy; simp [V.labelsL, V.labels, V.labelsLL, zz, zf, zy, lz] at hy; omega) (by repeat (first | exact hlt | exact hlt.mono (by omega) | refine Ahd.upd ?_ (Ahd.cur (by omega) _))) (fun h hlt => c_spec_l01Below (curBelow c2 12).2 8 L (by rw [curBelow_b]; exact hbc2) (by decide)) (by first | rfl | (simp only [Nat.add_zero, Nat.reduceAdd] <;> rfl)) (by simp only [eq_self, V.updL, V.travL, V.travLL, V.trav, updS, updP, and_self, true_and, and_true, false_and, and_false, Nat.reduceEqDiff, Nat.reduceSub, Nat.le_refl, Nat.zero_le, ↓reduceIte, if_true, if_false, kP, zz, zf, zy, nq01, nq02, nq03, nq10, nq12, nq13, nq20, nq21, nq23, nq30, nq31, nq32, nk1, nk2, nk3, nk4, nk5, nk6, nk7, nk8, nk9, nk10, nk11, nk12, nk13, nk14, nk15, nk16, nk17, nk18, nk19, nk20, nk21, nk22, nk23, nk24, nk25, nk26, nk27, nk28, nk29, nk30, nk31, nk32, nk33, nk34, nk35, nk36, nk37, nk38, nk39, nk40, nk41, nk42, nk43, nk44] <;> rfl) (upd_twice (by simp [V.travL, V.trav, updS, zz, zf, zy]) h) ?_
   simp only [ixs, List.getElem?_toArray, List.getElem?_cons_zero, List.getElem?_cons_succ]
   refine SOps.S0 rfl (OpS.weakM rfl (by simp only [kE, kT, kL, kC] <;> rfl) (by simp only [kE, kT, kL, kC] <;> rfl) cl197 (w_spec_MarkMail s1 bx gd ((curBelow (curBelow c2 12).2 8).1 : Int) (store_sm hs1))) (by simp only [kP] <;> rfl) ?_
   iterate 3 (refine SV ?_)
   refine SOps.nil ⟨LateOk.A (LateOk.cons (i := 0) tab_ok (by rfl) (by rfl) (by (try simp only [List.getElem_toArray, List.getElem_cons_succ, List.getElem_cons_zero]); exact (by simp only [kE, kT, kL, kC] <;> rfl)) (by show nth _ 96 = _; simp only [kE, kT, kL, kC] <;> rfl) (LateOk.cons (i := 1) tab_ok (by rfl) (by rfl) (by (try simp only [List.getElem_toArray, List.getElem_cons_succ, List.getElem_cons_zero]); exact (by simp only [kE, kT, kL, kC] <;> rfl)) (by show nth _ 97 = _; simp only [kE, kT, kL, kC] <;> rfl) (LateOk.cons (i := 2) tab_ok (by rfl) (by rfl) (by (try simp only [List.getElem_toArray, List.getElem_cons_succ, List.getElem_cons_zero]); exact (by simp only [kE, kT, kL, kC] <;> rfl)) (by show nth _ 98 = _; simp only [kE, kT, kL, kC] <;> rfl) LateOk.nil))) (by omega), ?_⟩
   refine Pend.store tab_ok (by simp only [List.getElem?_toArray, List.getElem?_cons_zero, List.getElem?_cons_succ] <;> rfl) (by rfl) (by rfl) (by rfl) (by simp only [kE, kT, kL, kC] <;> rfl) ⟨_, _, by simp only [kE]; rfl⟩ (by first | (simp [V.labelsL, V.labelsLL, V.labels, zz, zf, zy]; done) | (simp [-List.map_map, -List.map_set, -List.map_drop, -List.map_take, -List.map_tail, -List.drop_one, V.labelsL, V.labelsLL, V.labels, zz, zf, zy]; done)) (by simp only [eq_self, V.updL, V.travL, V.travLL, V.trav, updS, updP, and_self, true_and, and_true, false_and, and_false, Nat.reduceEqDiff, Nat.reduceSub, Nat.le_refl, Nat.zero_le, ↓reduceIte, if_true, if_false, kP, zz, zf, zy, nq01, nq02, nq03, nq10, nq12, nq13, nq20, nq21, nq23, nq30, nq31, nq32, nk1, nk2, nk3, nk4, nk5, nk6, nk7, nk8, nk9, nk10, nk11, nk12, nk13, nk14, nk15, nk16, nk17, nk18, nk19, nk20, nk21, nk22, nk23, nk24, nk25, nk26, nk27, nk28, nk29, nk30, nk31, nk32, nk33, nk34, nk35, nk36, nk37, nk38, nk39, nk40, nk41, nk42, nk43, nk44] <;> rfl) (Ahd.updL (by repeat (first | exact hlt | exact hlt.mono (by omega) | refine Ahd.upd ?_ (Ahd.cur (by omega) _)))) ?_
   simp only [ixs, List.getElem?_toArray, List.getElem?_cons_zero, List.getElem?_cons_succ]
   refine SOps.nil ⟨LateOk.A (LateOk.cons (i := 8) tab_ok (by rfl) (by rfl) (by (try simp only [List.getElem_toArray, List.getElem_cons_succ, List.getElem_cons_zero]); exact (by simp only [kE, kT, kL, kC] <;> rfl)) (by show nth _ 103 = _; simp only [kE, kT, kL, kC] <;> rfl) LateOk.nil) (by omega), ?_⟩
   refine Pend.nil ?_
   refine Ok.region ?_
   iterate 3 (refine EV ?_)
   refine ON ?_
   refine ⟨(i + 1, (markMail s1 bx gd ((curBelow (curBelow c2 12).2 8).1 : Int)).1, (curBelow (curBelow c2 12).2 8).2, k2 + 4), ?_, rfl, (by dsimp only; omega), ⟨by dsimp only; omega, (markMail_ok _ _ _ hs1).1, (markMail_ok _ _ _ hs1).2.trans hby, by dsimp only; simp only [curBelow_b, curBelow_b]; exact hc2, by dsimp only; omega⟩, by dsimp only; omega⟩
   (repeat (first | exact trivial | refine leC ?_ | refine leK ?_ ?_)) <;> first | (first | exact le_rfl' _ | (rw [wrap_succ (by omega)]; exact le_rfl' _)) | exact le_rfl' _
  try simp only [bsimp] at hb18
  refine OQ ?_
  iterate 3 (refine EV ?_)
  refine ON ?_
  refine OC (fun hb20 => ?_) (fun hb20 => ?_)
  ·
   try simp only [bsimp] at hb20
   refine Ok.region ?_
   iterate 3 (refine EV ?_)
   refine OW cl198 (w_spec_DropMail s1 bx gd (store_sm hs1)) ?_
   iterate 3 (refine EV ?_)
   refine OkOps.storeE tab_ok rfl rfl (by simp only [kE, kT, kL, kC] <;> rfl) ⟨_, _, by simp only [kE]; rfl⟩ (by first | (simp [V.labelsL, V.labelsLL, V.labels, zz, zf, zy]; done) | (simp [-List.map_map, -List.map_set, -List.map_drop, -List.map_take, -List.map_tail, -List.drop_one, V.labelsL, V.labelsLL, V.labels, zz, zf, zy]; done)) (by simp only [eq_self, V.updL, V.travL, V.travLL, V.trav, updS, updP, and_self, true_and, and_true, false_and, and_false, Nat.reduceEqDiff, Nat.reduceSub, Nat.le_refl, Nat.zero_le, ↓reduceIte, if_true, if_false, kP, zz, zf, zy, nq01, nq02, nq03, nq10, nq12, nq13, nq20, nq21, nq23, nq30, nq31, nq32, nk1, nk2, nk3, nk4, nk5, nk6, nk7, nk8, nk9, nk10, nk11, nk12, nk13, nk14, nk15, nk16, nk17, nk18, nk19, nk20, nk21, nk22, nk23, nk24, nk25, nk26, nk27, nk28, nk29, nk30, nk31, nk32, nk33, nk34, nk35, nk36, nk37, nk38, nk39, nk40, nk41, nk42, nk43, nk44] <;> rfl) (Ahd.updL (by repeat (first | exact hlt | exact hlt.mono (by omega) | refine Ahd.upd ?_ (Ahd.cur (by omega) _)))) ?_
   refine ON ?_
   refine Ok.region ?_
   iterate 3 (refine EV ?_)
   refine ON ?_
   refine ⟨(i + 1, (dropMail s1 bx gd).1, (curBelow c2 12).2, k2 + 4), ?_, rfl, (by dsimp only; omega), ⟨by dsimp only; omega, (dropMail_ok _ _ hs1).1, (dropMail_ok _ _ hs1).2.trans hby, by dsimp only; simp only [curBelow_b]; exact hc2, by dsimp only; omega⟩, by dsimp only; omega⟩
   (repeat (first | exact trivial | refine leC ?_ | refine leK ?_ ?_)) <;> first | (first | exact le_rfl' _ | (rw [wrap_succ (by omega)]; exact le_rfl' _)) | exact le_rfl' _
  try simp only [bsimp] at hb20
  refine OQ ?_
  iterate 3 (refine EV ?_)
  refine ON ?_
  refine OC (fun hb22 => ?_) (fun hb22 => ?_)
  ·
   try simp only [bsimp] at hb22
   refine Ok.stages 127 [0, 1, 2, 3] [(4, [0, 1], [5, 6, 7, 8]), (9, [8], [])] (by kernel_rfl) (by kernel_rfl) rfl ?_
   simp only [ixs, List.getElem?_toArray, List.getElem?_cons_zero, List.getElem?_cons_succ]
   iterate 3 (refine SV ?_)
   refine SOps.ev tab_ok rfl (ev_bs (by simp only [kT] <;> rfl) (by simp only [kT] <;> rfl) (by decide) (by decide) (by simp only [kE, kT, kL, kC, List.map_cons, List.map_nil] <;> rfl) (by simp only [kfe, beq_self_eq_true, Bool.and_true, Bool.true_and, decide_true, Nat.zero_add, Nat.lt_add_one, Nat.reduceLT, Nat.reduceAdd, Nat.zero_lt_succ, if_true, ↓reduceIte] <;> rfl)) (by simp only [kP] <;> rfl) ?_
   refine SOps.nil ?_
   refine Pend.updF (k := 0) (by simp only [List.getElem?_toArray, List.getElem?_cons_zero, List.getElem?_cons_succ] <;> rfl) (by rfl) (by rfl) (by simp only [kE, kT, kL, kC] <;> rfl) (by simp only [kE, kT, kL, kC] <;> rfl) cl107 (by intro y hy; simp [V.labelsL, V.labels, V.labelsLL, zz, zf, zy, lz] at hy; omega) (by repeat (first | exact hlt | exact hlt.mono (by omega) | refine Ahd.upd ?_ (Ahd.cur (by omega) _))) (fun h hlt => c_spec_l01Pick (curBelow c2 12).2 names2 L (n + 1 + 1 + k2 + 1) (by rw [curBelow_b]; exact hbc2) (by decide) (by omega)) (by first | rfl | (simp only [Nat.add_zero, Nat.reduceAdd] <;> rfl)) (by simp only [eq_self, V.updL, V.travL, V.travLL, V.trav, updS, updP, and_self, true_and, and_true, false_and, and_false, Nat.reduceEqDiff, Nat.reduceSub, Nat.le_refl, Nat.zero_le, ↓reduceIte, if_true, if_false, kP, zz, zf, zy, nq01, nq02, nq03, nq10, nq12, nq13, nq20, nq21, nq23, nq30, nq31, nq32, nk1, nk2, nk3, nk4, nk5, nk6, nk7, nk8, nk9, nk10, nk11, nk12, nk13, nk14, nk15, nk16, nk17, nk18, nk19, nk20, nk21, nk22, nk23, nk24, nk25, nk26, nk27, nk28, nk29, nk30, nk31, nk32, nk33, nk34, nk35, nk36, nk37, nk38, nk39, nk40, nk41, nk42, nk43, nk44] <;> rfl) (upd_twice (by simp [V.travL, V.trav, updS, zz, zf, zy]) h) ?_
   simp only [ixs, List.getElem?_toArray, List.getElem?_cons_zero, List.getElem?_cons_succ]
   refine SOps.S0 rfl (OpS.weakM rfl (by simp only [kE, kT, kL, kC] <;> rfl) (by simp only [kE, kT, kL, kC] <;> rfl) cl199 (w_spec_RenameBox s1 bx (pickS (curBelow c2 12).2 names2).1 (store_sm hs1) (Nat.le_trans (pick_len (m := 5) (by decide) (by decide)) (by decide)))) (by simp only [kP] <;> rfl) ?_
   iterate 3 (refine SV ?_)
   refine SOps.nil ⟨LateOk.A (LateOk.cons (i := 0) tab_ok (by rfl) (by rfl) (by (try simp only [List.getElem_toArray, List.getElem_cons_succ, List.getElem_cons_zero]); exact (by simp only [kE, kT, kL, kC] <;> rfl)) (by show nth _ 118 = _; simp only [kE, kT, kL, kC] <;> rfl) (LateOk.cons (i := 1) tab_ok (by rfl) (by rfl) (by (try simp only [List.getElem_toArray, List.getElem_cons_succ, List.getElem_cons_zero]); exact (by simp only [kE, kT, kL, kC] <;> rfl)) (by show nth _ 119 = _; simp only [kE, kT, kL, kC] <;> rfl) LateOk.nil)) (by omega), ?_⟩
   refine Pend.store tab_ok (by simp only [List.getElem?_toArray, List.getElem?_cons_zero, List.getElem?_cons_succ] <;> rfl) (by rfl) (by rfl) (by rfl) (by simp only [kE, kT, kL, kC] <;> rfl) ⟨_, _, by simp only [kE]; rfl⟩ (by first | (simp [V.labelsL, V.labelsLL, V.labels, zz, zf, zy]; done) | (simp [-List.map_map, -List.map_set, -List.map_drop, -List.map_take, -List.map_tail, -List.drop_one, V.labelsL, V.labelsLL, V.labels, zz, zf, zy]; done)) (by simp only [eq_self, V.updL, V.travL, V.travLL, V.trav, updS, updP, and_self, true_and, and_true, false_and, and_false, Nat.reduceEqDiff, Nat.reduceSub, Nat.le_refl, Nat.zero_le, ↓reduceIte, if_true, if_false, kP, zz, zf, zy, nq01, nq02, nq03, nq10, nq12, nq13, nq20, nq21, nq23, nq30, nq31, nq32, nk1, nk2, nk3, nk4, nk5, nk6, nk7, nk8, nk9, nk10, nk11, nk12, nk13, nk14, nk15, nk16, nk17, nk18, nk19, nk20, nk21, nk22, nk23, nk24, nk25, nk26, nk27, nk28, nk29, nk30, nk31, nk32, nk33, nk34, nk35, nk36, nk37, nk38, nk39, nk40, nk41, nk42, nk43, nk44] <;> rfl) (Ahd.updL (by repeat (first | exact hlt | exact hlt.mono (by omega) | refine Ahd.upd ?_ (Ahd.cur (by omega) _)))) ?_
   simp only [ixs, List.getElem?_toArray, List.getElem?_cons_zero, List.getElem?_cons_succ]
   refine SOps.nil ⟨LateOk.A (LateOk.cons (i := 8) tab_ok (by rfl) (by rfl) (by (try simp only [List.getElem_toArray, List.getElem_cons_succ, List.getElem_cons_zero]); exact (by simp only [kE, kT, kL, kC] <;> rfl)) (by show nth _ 125 = _; simp only [kE, kT, kL, kC] <;> rfl) LateOk.nil) (by omega), ?_⟩
   refine Pend.nil ?_
   refine Ok.region ?_
   iterate 3 (refine EV ?_)
   refine ON ?_
   refine ⟨(i + 1, (renameBox s1 bx (pickS (curBelow c2 12).2 names2).1).1, (pickS (curBelow c2 12).2 names2).2, k2 + 4), ?_, rfl, (by dsimp only; omega), ⟨by dsimp only; omega, (renameBox_ok _ _ hs1).1, (renameBox_ok _ _ hs1).2.trans hby, by dsimp only; simp only [curBelow_b, pickS_b]; exact hc2, by dsimp only; omega⟩, by dsimp only; omega⟩
   (repeat (first | exact trivial | refine leC ?_ | refine leK ?_ ?_)) <;> first | (first | exact le_rfl' _ | (rw [wrap_succ (by omega)]; exact le_rfl' _)) | exact le_rfl' _
  try simp only [bsimp] at hb22
  refine OQ ?_
  refine EV ?_
  refine OkOps.upd rfl rfl (by simp only [kE, kT, kL, kC] <;> rfl) (by simp only [kE, kT, kL, kC] <;> rfl) cl114 (fun h => c_spec_l01Once (curBelow c2 12).2 3 L (by rw [curBelow_b]; exact hbc2) (by decide)) (by simp only [eq_self, V.updL, V.travL, V.travLL, V.trav, updS, updP, and_self, true_and, and_true, false_and, and_false, Nat.reduceEqDiff, Nat.reduceSub, Nat.le_refl, Nat.zero_le, ↓reduceIte, if_true, if_false, kP, zz, zf, zy, nq01, nq02, nq03, nq10, nq12, nq13, nq20, nq21, nq23, nq30, nq31, nq32, nk1, nk2, nk3, nk4, nk5, nk6, nk7, nk8, nk9, nk10, nk11, nk12, nk13, nk14, nk15, nk16, nk17, nk18, nk19, nk20, nk21, nk22, nk23, nk24, nk25, nk26, nk27, nk28, nk29, nk30, nk31, nk32, nk33, nk34, nk35, nk36, nk37, nk38, nk39, nk40, nk41, nk42, nk43, nk44] <;> rfl) (upd_twice (by simp [V.travL, V.trav, updS, zz, zf, zy]) h) ?_
  refine ON ?_
  refine OC (fun hb12 => ?_) (fun hb12 => ?_)
  ·
   try simp only [bsimp] at hb12
   refine Ok.region ?_
   iterate 2 (refine EV ?_)
   refine OW cl200 (w_spec_DropBox s1 bx (store_sm hs1)) ?_
   iterate 3 (refine EV ?_)
   refine OkOps.storeE tab_ok rfl rfl (by simp only [kE, kT, kL, kC] <;> rfl) ⟨_, _, by simp only [kE]; rfl⟩ (by first | (simp [V.labelsL, V.labelsLL, V.labels, zz, zf, zy]; done) | (simp [-List.map_map, -List.map_set, -List.map_drop, -List.map_take, -List.map_tail, -List.drop_one, V.labelsL, V.labelsLL, V.labels, zz, zf, zy]; done)) (by simp only [eq_self, V.updL, V.travL, V.travLL, V.trav, updS, updP, and_self, true_and, and_true, false_and, and_false, Nat.reduceEqDiff, Nat.reduceSub, Nat.le_refl, Nat.zero_le, ↓reduceIte, if_true, if_false, kP, zz, zf, zy, nq01, nq02, nq03, nq10, nq12, nq13, nq20, nq21, nq23, nq30, nq31, nq32, nk1, nk2, nk3, nk4, nk5, nk6, nk7, nk8, nk9, nk10, nk11, nk12, nk13, nk14, nk15, nk16, nk17, nk18, nk19, nk20, nk21, nk22, nk23, nk24, nk25, nk26, nk27, nk28, nk29, nk30, nk31, nk32, nk33, nk34, nk35, nk36, nk37, nk38, nk39, nk40, nk41, nk42, nk43, nk44] <;> rfl) (Ahd.updL (by repeat (first | exact hlt | exact hlt.mono (by omega) | refine Ahd.upd ?_ (Ahd.cur (by omega) _)))) ?_
   refine ON ?_
   refine Ok.region ?_
   iterate 3 (refine EV ?_)
   refine ON ?_
   refine ⟨(i + 1, (dropBox s1 bx).1, (curBelow (curBelow c2 12).2 3).2, k2 + 4), ?_, rfl, (by dsimp only; omega), ⟨by dsimp only; omega, (dropBox_ok _ hs1).1, (dropBox_ok _ hs1).2.trans hby, by dsimp only; simp only [curBelow_b, curBelow_b]; exact hc2, by dsimp only; omega⟩, by dsimp only; omega⟩
   (repeat (first | exact trivial | refine leC ?_ | refine leK ?_ ?_)) <;> first | (first | exact le_rfl' _ | (rw [wrap_succ (by omega)]; exact le_rfl' _)) | exact le_rfl' _
  try simp only [bsimp] at hb12
  refine Ok.skip ?_
  refine Ok.region ?_
  iterate 3 (refine EV ?_)
  refine ON ?_
  refine ⟨(i + 1, s1, (curBelow (curBelow c2 12).2 3).2, k2 + 4), ?_, rfl, (by dsimp only; omega), ⟨by dsimp only; omega, ((And.intro hs1 rfl : storeOk s1 = true ∧ s1.by_ = s1.by_)).1, ((And.intro hs1 rfl : storeOk s1 = true ∧ s1.by_ = s1.by_)).2.trans hby, by dsimp only; simp only [curBelow_b, curBelow_b]; exact hc2, by dsimp only; omega⟩, by dsimp only; omega⟩
  (repeat (first | exact trivial | refine leC ?_ | refine leK ?_ ?_)) <;> first | (first | exact le_rfl' _ | (rw [wrap_succ (by omega)]; exact le_rfl' _)) | exact le_rfl' _
 try simp only [bsimp] at hb2
 refine Ok.exit ?_
 refine Ok.seq ?_
 refine Ok.bump (n' := n + 1 + 400) (by omega) ?_
 refine Ok.region ?_
 refine EV ?_
 refine OkOps.storeE tab_ok rfl rfl (by simp only [kE, kT, kL, kC] <;> rfl) ⟨_, _, by simp only [kE]; rfl⟩ (by first | (simp [V.labelsL, V.labelsLL, V.labels, zz, zf, zy]; done) | (simp [-List.map_map, -List.map_set, -List.map_drop, -List.map_take, -List.map_tail, -List.drop_one, V.labelsL, V.labelsLL, V.labels, zz, zf, zy]; done)) (by simp only [eq_self, V.updL, V.travL, V.travLL, V.trav, updS, updP, and_self, true_and, and_true, false_and, and_false, Nat.reduceEqDiff, Nat.reduceSub, Nat.le_refl, Nat.zero_le, ↓reduceIte, if_true, if_false, kP, zz, zf, zy, nq01, nq02, nq03, nq10, nq12, nq13, nq20, nq21, nq23, nq30, nq31, nq32, nk1, nk2, nk3, nk4, nk5, nk6, nk7, nk8, nk9, nk10, nk11, nk12, nk13, nk14, nk15, nk16, nk17, nk18, nk19, nk20, nk21, nk22, nk23, nk24, nk25, nk26, nk27, nk28, nk29, nk30, nk31, nk32, nk33, nk34, nk35, nk36, nk37, nk38, nk39, nk40, nk41, nk42, nk43, nk44] <;> rfl) (Ahd.updL (by repeat (first | exact hlt | exact hlt.mono (by omega) | refine Ahd.upd ?_ (Ahd.cur (by omega) _)))) ?_
 refine ON ?_
 refine Ok.ret ?_
 with_reducible repeat (first | refine thenQ_ret ?_ | refine blockQ_ret ?_)
 refine RT ?_
 exact ⟨(s1, cc), ⟨hs1, hby, hcb⟩, rfl, rfl, rfl⟩
theorem c_spec_l07Store (c : Cur) (L : Nat) (hb : c.b.length ≤ 4611686018427387904) {h : List V} {n : Nat} (hlt : Ahd n h) (hL : L + 1 < n) (hfix : V.updL (L + 1) 0 (cCur c) h = h) : OkCall Tryz.prog 92 [.ptr (L + 1) 0 0 (cCur c)] h n (fun r h1 n1 => ∃ y : Store × Cur, (storeOk y.1 = true ∧ y.2.b = c.b) ∧ r = .agg (cStore y.1) ∧ h1 = V.updL (L + 1) 0 (cCur y.2) h ∧ n1 = n + 401) := by
 obtain ⟨n, rfl⟩ : ∃ k, n = k + 1 := ⟨n - 1, by omega⟩
 have nq01 : ((L + 1 : Nat) = n + 1) = False := eq_false (by omega)
 have nq02 : ((L + 1 : Nat) = 0) = False := eq_false (by omega)
 have nq10 : ((n + 1 : Nat) = L + 1) = False := eq_false (by omega)
 have nq12 : ((n + 1 : Nat) = 0) = False := eq_false (by omega)
 have nq20 : ((0 : Nat) = L + 1) = False := eq_false (by omega)
 have nq21 : ((0 : Nat) = n + 1) = False := eq_false (by omega)
 refine OkCall.enter' tab_ok Tryz.func92 rfl (t := [.ptr (L + 1) 0 0 (cCur c), .any, .any, .any, .any, .any, .any, .any, .any, .any, .any, .any, .any, .any]) rfl ?_
 refine OQ ?_
 refine EV ?_
 refine ON ?_
 refine Ok.seq ?_
 have hq1 := curBelow_lt (c := c) (n := 12) (by decide)
 have hw2 : IntKind.i64.wrap (2 + ((curBelow c 12).1 : Int)) = ((2 + (curBelow c 12).1 : Nat) : Int) := by rw [IntKind.wrap_i64]; omega
 refine Ok.region ?_
 refine EV ?_
 refine OkOps.upd rfl rfl (by simp only [kE, kT, kL, kC] <;> rfl) (by simp only [kE, kT, kL, kC] <;> rfl) cl105 (fun h => c_spec_l01Below c 12 L hb (by decide)) (by simp only [eq_self, V.updL, V.travL, V.travLL, V.trav, updS, updP, and_self, true_and, and_true, false_and, and_false, Nat.reduceEqDiff, Nat.reduceSub, Nat.le_refl, Nat.zero_le, ↓reduceIte, if_true, if_false, kP, zz, zf, zy, nq01, nq02, nq10, nq12, nq20, nq21] <;> rfl) (rfl) ?_
 refine OkOps.ev tab_ok rfl (by simp only [kE, kT, kL, kC, hw2] <;> rfl) (by simp only [kP] <;> rfl) ?_
 refine EV ?_
 refine ON ?_
 refine Ok.seq ?_
 have hq2 := curBelow_lt (c := (curBelow c 12).2) (n := 2) (by decide)
 have hw1 : IntKind.i64.wrap (1 + ((curBelow (curBelow c 12).2 2).1 : Int)) = 1 + ((curBelow (curBelow c 12).2 2).1 : Int) := by rw [IntKind.wrap_i64]; omega
 refine Ok.region ?_
 iterate 2 (refine EV ?_)
 refine OkOps.upd rfl rfl (by simp only [kE, kT, kL, kC] <;> rfl) (by simp only [kE, kT, kL, kC] <;> rfl) cl105 (fun h => c_spec_l01Below (curBelow c 12).2 2 L (by rw [curBelow_b]; exact hb) (by decide)) (by simp only [eq_self, V.updL, V.travL, V.travLL, V.trav, updS, updP, and_self, true_and, and_true, false_and, and_false, Nat.reduceEqDiff, Nat.reduceSub, Nat.le_refl, Nat.zero_le, ↓reduceIte, if_true, if_false, kP, zz, zf, zy, nq01, nq02, nq10, nq12, nq20, nq21] <;> rfl) (upd_twice (by simp [V.travL, V.trav, updS, zz, zf, zy]) h) ?_
 refine OkOps.ev tab_ok rfl (by simp only [kE, kT, kL, kC, hw1] <;> rfl) (by simp only [kP] <;> rfl) ?_
 refine OW cl28 (w_spec_StoreNew (1 + ((curBelow (curBelow c 12).2 2).1 : Int))) ?_
 refine EV ?_
 refine OkOps.updX (k := 400) rfl rfl (by simp only [kE, kT, kL, kC] <;> rfl) (by simp only [kE, kT, kL, kC] <;> rfl) cl146 (by intro y hy; simp [V.labelsL, V.labels, V.labelsLL, zz, zf, zy, lz] at hy; omega) (by repeat (first | exact hlt | exact hlt.mono (by omega) | refine Ahd.upd ?_ (Ahd.cur (by omega) _))) (fun h hlt hfix => c_spec_l07Use (curBelow (curBelow c 12).2 2).2 ⟨1 + ((curBelow (curBelow c 12).2 2).1 : Int), 0, [], []⟩ (2 + (curBelow c 12).1) 100 L (by rw [curBelow_b, curBelow_b]; exact hb) (storeNew_ok (by omega)) (by omega) (by decide) hlt (by omega) hfix) (by simp only [eq_self, V.updL, V.travL, V.travLL, V.trav, updS, updP, and_self, true_and, and_true, false_and, and_false, Nat.reduceEqDiff, Nat.reduceSub, Nat.le_refl, Nat.zero_le, ↓reduceIte, if_true, if_false, zz, zf, zy, nq01, nq02, nq10, nq12, nq20, nq21]) (by first | exact hfix | rfl | exact upd_twice (by simp [V.travL, V.trav, updS, zz, zf, zy]) _) (by first | rfl | (simp only [Nat.add_zero, Nat.reduceAdd] <;> rfl)) (fun y => by simp only [eq_self, V.updL, V.travL, V.travLL, V.trav, updS, updP, and_self, true_and, and_true, false_and, and_false, Nat.reduceEqDiff, Nat.reduceSub, Nat.le_refl, Nat.zero_le, ↓reduceIte, if_true, if_false, kP, zz, zf, zy, nq01, nq02, nq10, nq12, nq20, nq21] <;> rfl) (fun y => upd_twice (by simp [V.travL, V.trav, updS, zz, zf, zy]) _) ?_
 rintro ⟨s1, c1⟩ ⟨hs1, hy1, hb1⟩
 dsimp only
 refine OkOps.storeE tab_ok rfl rfl (by simp only [kE, kT, kL, kC] <;> rfl) ⟨_, _, by simp only [kE]; rfl⟩ (by first | (simp [V.labelsL, V.labelsLL, V.labels, zz, zf, zy]; done) | (simp [-List.map_map, -List.map_set, -List.map_drop, -List.map_take, -List.map_tail, -List.drop_one, V.labelsL, V.labelsLL, V.labels, zz, zf, zy]; done)) (by simp only [eq_self, V.updL, V.travL, V.travLL, V.trav, updS, updP, and_self, true_and, and_true, false_and, and_false, Nat.reduceEqDiff, Nat.reduceSub, Nat.le_refl, Nat.zero_le, ↓reduceIte, if_true, if_false, kP, zz, zf, zy, nq01, nq02, nq10, nq12, nq20, nq21] <;> rfl) (Ahd.updL (by repeat (first | exact hlt | exact hlt.mono (by omega) | refine Ahd.upd ?_ (Ahd.cur (by omega) _)))) ?_
 refine ON ?_
 refine Ok.ret ?_
 with_reducible repeat (first | refine thenQ_ret ?_ | refine blockQ_ret ?_)
 refine RT ?_
 exact ⟨(s1, c1), ⟨hs1, by rw [hb1, curBelow_b, curBelow_b]⟩, rfl, rfl, by omega⟩
theorem x_spec_DrawStore (code : Str) (hc : code.length ≤ 4611686018427387904) : WeakX Tryz.prog 27 [.sl 0 1 0 (code.map cB)] (Store) (fun y => .agg (cStore y)) (fun y => storeOk y = true) := by
 refine WeakX.enter tab_ok Tryz.func27 rfl (.inr (by simp [V.labelsL, V.labels, V.labelsLL, zz, zf, zy, or_imp, forall_and])) (t := [.sl 0 1 0 (code.map cB), .any, .any, .any, .any, .any]) rfl ?_
 refine OQ ?_
 refine EV ?_
 refine ON ?_
 refine OQ ?_
 refine EV ?_
 refine OkOps.turn _ rfl rfl (by simp only [kE, kT, kL, kC] <;> rfl) (by simp only [kE, kT, kL, kC] <;> rfl) cl93 (fun h => c_spec_l01New code hc) (by first | rfl | (simp only [Nat.add_zero, Nat.reduceAdd] <;> rfl)) (by simp only [List.map_cons, List.map_nil, kturn, fillA_ptr, fillA_far, fillA_self, zz, zf, zy, ne_eq, Nat.reduceEqDiff, not_false_eq_true, List.length_map, id_eq, kP] <;> rfl) (rfl) ?_
 refine OkOps.updX (k := 401) rfl rfl (by simp only [kE, kT, kL, kC] <;> rfl) (by simp only [kE, kT, kL, kC] <;> rfl) cl92 (by intro y hy; simp [V.labelsL, V.labels, V.labelsLL, zz, zf, zy, lz] at hy; omega) (Ahd.nil _) (fun h hlt hfix => c_spec_l07Store (curNew code) 1 hc hlt (by omega) hfix) (by simp only [eq_self, V.updL, V.travL, V.travLL, V.trav, updS, updP, and_self, true_and, and_true, false_and, and_false, Nat.reduceEqDiff, Nat.reduceSub, Nat.le_refl, Nat.zero_le, ↓reduceIte, if_true, if_false, zz, zf, zy]) (by first | exact hfix | rfl | exact upd_twice (by simp [V.travL, V.trav, updS, zz, zf, zy]) _) (by first | rfl | (simp only [Nat.add_zero, Nat.reduceAdd] <;> rfl)) (fun y => by simp only [eq_self, V.updL, V.travL, V.travLL, V.trav, updS, updP, and_self, true_and, and_true, false_and, and_false, Nat.reduceEqDiff, Nat.reduceSub, Nat.le_refl, Nat.zero_le, ↓reduceIte, if_true, if_false, kP, zz, zf, zy] <;> rfl) (fun y => rfl) ?_
 rintro ⟨s1, c1⟩ ⟨hs1, hb1⟩
 dsimp only
 refine OE ?_
 refine ON ?_
 refine Ok.ret ?_
 with_reducible repeat (first | refine thenQ_ret ?_ | refine blockQ_ret ?_)
 refine RT ?_
 exact ⟨s1, hs1, by simp [V.erase, V.trav, V.travL, V.travLL, packV, zz, zf, zy]⟩
end Go.Proofs.YtjhfabimacljhaaGreat.K

/- Walks: mails, boxes, stores read, as the reference has it. Printed by w2.py. -/
namespace Go.Proofs.YtjhfabimacljhaaGreat.K
open Go Go.RowKit
set_option linter.unusedVariables false
set_option linter.unusedSimpArgs false
theorem Ahd.scan {n : Nat} (hn : 1 ≤ n) (c : Scan) : Ahd n (cScan c) := fun y hy => by simp [cScan, V.labelsL, V.labels] at hy
set_option maxHeartbeats 4000000
set_option maxRecDepth 20000
theorem w_spec_ReadMail (t : Str) (z : Int) (ht : t.length ≤ 4611686018427387904) : Weak Tryz.prog 157 [.str t, .int .i64 z] (vML (readMailS t z)) := by
 refine Weak.enter tab_ok Tryz.func157 rfl (.inr (by simp [V.labelsL, V.labels, zz, zf, zy])) (t := [.str t, .int .i64 z, .any, .any, .any, .any, .any, .any, .any, .any, .any, .any, .any, .any, .any, .any, .any, .any, .any, .any, .any, .any, .any, .any, .any, .any, .any, .any, .any, .any, .any, .any, .any, .any, .any, .any, .any, .any, .any, .any, .any, .any, .any, .any, .any, .any, .any, .any, .any, .any, .any, .any, .any, .any, .any, .any, .any, .any, .any, .any]) rfl ?_
 refine OQ ?_
 iterate 3 (refine EV ?_)
 refine ON ?_
 refine OQ ?_
 iterate 2 (refine EV ?_)
 refine OkOps.ev tab_ok rfl (by simp [ev1, fillV, kE, kT, kL] <;> first | rfl | exact ⟨rfl, rfl⟩) (by simp only [kP] <;> rfl) ?_
 iterate 2 (refine EV ?_)
 refine ON ?_
 refine Ok.seq ?_
 refine Ok.bump (n' := 4) (by decide) ?_
 refine Ok.region ?_
 refine EV ?_
 refine OkOps.upd rfl rfl (by simp only [kE, kT, kL, kC] <;> rfl) (by simp only [kE, kT, kL, kC] <;> rfl) cl101 (fun h => c_spec_l05Var (⟨t, z, false⟩ : Scan) 1 ht) (by simp only [eq_self, V.updL, V.travL, V.travLL, V.trav, updS, updP, and_self, true_and, and_true, false_and, and_false, Nat.reduceEqDiff, Nat.reduceSub, Nat.le_refl, Nat.zero_le, ↓reduceIte, if_true, if_false, kP, zz, zf, zy] <;> rfl) (rfl) ?_
 refine OkOps.ev tab_ok rfl (by simp [ev1, fillV, kE, kT, kL] <;> first | rfl | exact ⟨rfl, rfl⟩) (by simp only [kP] <;> rfl) ?_
 refine OkOps.nilAgg 17 (cs' := [.int .i64 ((ml1 (⟨t, z, false⟩ : Scan)).1 : Int), .int .i64 0, .sl 3 3 0 [], .str []]) (by rfl) (by exact ⟨.inl rfl, .inl rfl, le_nil 3 3, .inl rfl, trivial⟩) (by simp only [List.set_cons_succ, List.set_cons_zero] <;> rfl) ?_
 refine EV ?_
 refine OE ?_
 refine ON ?_
 refine OQ ?_
 refine EV ?_
 refine OkOps.upd rfl rfl (by simp only [kE, kT, kL, kC] <;> rfl) (by simp only [kE, kT, kL, kC] <;> rfl) cl101 (fun h => c_spec_l05Var (ml1 (⟨t, z, false⟩ : Scan)).2 1 (by simp only [scanNum_text, scanShort_text, regsS_text]; exact ht)) (by simp only [eq_self, V.updL, V.travL, V.travLL, V.trav, updS, updP, and_self, true_and, and_true, false_and, and_false, Nat.reduceEqDiff, Nat.reduceSub, Nat.le_refl, Nat.zero_le, ↓reduceIte, if_true, if_false, kP, zz, zf, zy] <;> rfl) (rfl) ?_
 refine EV ?_
 refine OE ?_
 refine ON ?_
 refine Ok.seq ?_
 refine OQ ?_
 refine EV ?_
 refine ON ?_
 refine Ok.block ?_
 refine Ok.bump (n' := 9) (by omega) ?_
 refine Ok.loopWZ (τ := Nat) (fun x => [(7, .ptr 2 0 0 (cScan (regsS x (ml2 (⟨t, z, false⟩ : Scan)).2).2)), (8, .ptr 4 0 0 [.int .i64 ((ml1 (⟨t, z, false⟩ : Scan)).1 : Int), .int .i64 ((ml2 (⟨t, z, false⟩ : Scan)).1 : Int), .sl 3 3 0 ((regsS x (ml2 (⟨t, z, false⟩ : Scan)).2).1.map cReg), .str []]), (9, .int .i64 (x : Int))]) [10, 11, 12, 13, 14, 15, 16, 17, 18, 19, 20, 21, 22, 23, 24, 25, 26, 27, 28, 29, 30, 31, 32, 33, 34, 35, 36, 37, 38, 39, 40, 41] (fun x => by simp only [kover] <;> rfl) (fun x => x ≤ 3) (fun x => 3 - x) 0 (by omega) (by (repeat (first | exact trivial | refine leC ?_ | refine leK ?_ ?_)) <;> first | (first | exact le_rfl' _ | exact le_eqm rfl) | exact le_rfl' _) (Nat.zero_le _) ?_
 rintro i h1
 have hrl := regsS_len i (ml2 (⟨t, z, false⟩ : Scan)).2
 refine Ok.seq ?_
 refine OQ ?_
 iterate 2 (refine EV ?_)
 refine ON ?_
 refine OC (fun hb5 => ?_) (fun hb5 => ?_)
 ·
  try simp only [bsimp] at hb5
  have hi : i < 3 := by omega
  refine Ok.skip ?_
  refine Ok.seq ?_
  refine Ok.block ?_
  refine OQ ?_
  refine EV ?_
  refine OkOps.upd rfl rfl (by simp only [kE, kT, kL, kC] <;> rfl) (by simp only [kE, kT, kL, kC] <;> rfl) cl101 (fun h => c_spec_l05Var (regsS i (ml2 (⟨t, z, false⟩ : Scan)).2).2 1 (by simp only [scanNum_text, scanShort_text, regsS_text]; exact ht)) (by simp only [eq_self, V.updL, V.travL, V.travLL, V.trav, updS, updP, and_self, true_and, and_true, false_and, and_false, Nat.reduceEqDiff, Nat.reduceSub, Nat.le_refl, Nat.zero_le, ↓reduceIte, if_true, if_false, kP, zz, zf, zy] <;> rfl) (rfl) ?_
  refine OkOps.ev tab_ok rfl (by simp [ev1, fillV, kE, kT, kL] <;> first | rfl | exact ⟨rfl, rfl⟩) (by simp only [kP] <;> rfl) ?_
  refine EV ?_
  refine OE ?_
  refine ON ?_
  refine OQ ?_
  refine EV ?_
  refine OkOps.upd rfl rfl (by simp only [kE, kT, kL, kC] <;> rfl) (by simp only [kE, kT, kL, kC] <;> rfl) cl101 (fun h => c_spec_l05Var (rg1 (regsS i (ml2 (⟨t, z, false⟩ : Scan)).2).2).2 1 (by simp only [scanNum_text, scanShort_text, regsS_text]; exact ht)) (by simp only [eq_self, V.updL, V.travL, V.travLL, V.trav, updS, updP, and_self, true_and, and_true, false_and, and_false, Nat.reduceEqDiff, Nat.reduceSub, Nat.le_refl, Nat.zero_le, ↓reduceIte, if_true, if_false, kP, zz, zf, zy] <;> rfl) (rfl) ?_
  iterate 2 (refine EV ?_)
  refine OE ?_
  refine ON ?_
  refine OQ ?_
  refine EV ?_
  refine OkOps.upd rfl rfl (by simp only [kE, kT, kL, kC] <;> rfl) (by simp only [kE, kT, kL, kC] <;> rfl) cl101 (fun h => c_spec_l05Var (rg2 (regsS i (ml2 (⟨t, z, false⟩ : Scan)).2).2).2 1 (by simp only [scanNum_text, scanShort_text, regsS_text]; exact ht)) (by simp only [eq_self, V.updL, V.travL, V.travLL, V.trav, updS, updP, and_self, true_and, and_true, false_and, and_false, Nat.reduceEqDiff, Nat.reduceSub, Nat.le_refl, Nat.zero_le, ↓reduceIte, if_true, if_false, kP, zz, zf, zy] <;> rfl) (rfl) ?_
  iterate 2 (refine EV ?_)
  refine OE ?_
  refine ON ?_
  refine Ok.region ?_
  iterate 3 (refine EV ?_)
  refine OkOps.ev tab_ok rfl (ev_bs (by simp only [kT] <;> rfl) (by simp only [kT] <;> rfl) (by decide) (by decide) (by simp only [kE, kT, kL, kC, List.map_cons, List.map_nil] <;> rfl) (by simp only [kfe, beq_self_eq_true, Bool.and_true, Bool.true_and, decide_true, Nat.zero_add, Nat.lt_add_one, Nat.reduceLT, Nat.reduceAdd, Nat.zero_lt_succ, if_true, ↓reduceIte] <;> rfl)) (by simp only [kP] <;> rfl) ?_
  refine OkOps.append tab_ok rfl rfl (by simp only [kT] <;> rfl) (by simp only [kT] <;> rfl) (by decide) rfl (by simp only [kE, kT, kL, kC] <;> rfl) (.inl ⟨_, _, by simp only [kE, kT, kL, kC] <;> rfl⟩) (by omega) (by omega) (by simp only [List.length_map, List.length_cons, List.length_nil, hrl]; omega) (by simp only [List.length_map, List.length_cons, List.length_nil, hrl]; omega) (by simp [V.one]) (by simp only [V.killL, V.killLL, V.travL, V.travLL, V.trav, killS, killP, Nat.reduceEqDiff, ↓reduceIte, reduceCtorEq, if_true, if_false, List.append_nil, List.nil_append, List.cons_append, zz, zf, zy] <;> rfl) (by simp only [V.killL, V.killLL, V.travL, V.travLL, V.trav, killS, killP, Nat.reduceEqDiff, ↓reduceIte, reduceCtorEq, if_true, if_false, List.append_nil, List.nil_append, List.cons_append, zz, zf, zy, kP] <;> rfl) (rfl) ?_
  refine EV ?_
  refine OE ?_
  refine ON ?_
  refine Ok.region ?_
  iterate 3 (refine EV ?_)
  refine ON ?_
  refine ⟨i + 1, ?_, rfl, by omega, by omega⟩
  simp only [V.renL, V.travL, V.travLL, V.trav, frz, zz, zf, zy, Nat.reduceLeDiff, ↓reduceIte]
  (repeat (first | exact trivial | refine leC ?_ | refine leK ?_ ?_)) <;> first | (first | exact le_rfl' _ | (rw [wrap_add_one (by omega)]; exact le_rfl' _) | exact le_eqm rfl | (refine le_eqm ?_; show _ = V.ptr 4 0 0 [_, _, .sl 3 3 0 (((regsS i (ml2 (⟨t, z, false⟩ : Scan)).2).1 ++ [(regS (regsS i (ml2 (⟨t, z, false⟩ : Scan)).2).2).1]).map cReg), _]; rw [List.map_append]; rfl)) | exact le_rfl' _
 try simp only [bsimp] at hb5
 obtain rfl : i = 3 := by omega
 refine Ok.exit ?_
 refine OQ ?_
 refine EV ?_
 refine OkOps.upd rfl rfl (by simp only [kE, kT, kL, kC] <;> rfl) (by simp only [kE, kT, kL, kC] <;> rfl) cl156 (fun h => c_spec_l05Short (ml3 (⟨t, z, false⟩ : Scan)).2 1 (by simp only [scanNum_text, scanShort_text, regsS_text]; exact ht)) (by simp only [eq_self, V.updL, V.travL, V.travLL, V.trav, updS, updP, and_self, true_and, and_true, false_and, and_false, Nat.reduceEqDiff, Nat.reduceSub, Nat.le_refl, Nat.zero_le, ↓reduceIte, if_true, if_false, kP, zz, zf, zy] <;> rfl) (rfl) ?_
 refine EV ?_
 refine OE ?_
 refine ON ?_
 refine Ok.seq ?_
 refine Ok.seqC [(53, .bool (mailB (⟨t, z, false⟩ : Scan)))] [45, 46, 47, 48, 49, 50, 51, 52] (by simp only [kover] <;> rfl) ?_ ?_
 ·
  refine Ok.region ?_
  iterate 5 (refine EV ?_)
  refine OP (d := 49) (fun hg12_4 => ?_) (fun hg12_4 => ?_)
  ·
   try simp only [bsimp] at hg12_4
   iterate 3 (refine OU ?_)
   refine EV ?_
   refine ON ?_
   refine ⟨rfl, ?_, rfl, rfl⟩
   (repeat (first | exact trivial | refine leC ?_ | refine leK ?_ ?_)) <;> first | (refine .inl (congrArg V.bool ?_); (first | (simp [mailB, *]; done) | (simp [mailB, *] <;> omega) | (rw [Bool.eq_iff_iff]; simp [mailB, *] <;> omega) | (simp_all [mailB]; done))) | exact le_rfl' _
  try simp only [bsimp] at hg12_4
  refine OX ?_
  refine OO ?_
  refine OkOps.S0 rfl (OpS.weakE rfl (by simp only [kE, kT, kL, kC] <;> rfl) (by simp only [kE, kT, kL, kC, V.eraseL, V.erase, V.travL, V.trav, zz, zf, zy] <;> rfl) cl203 (by simp [V.labels, V.labelsL, V.labelsLL, zz, zf, zy]) (w_spec_MailOk (mailS_ (⟨t, z, false⟩ : Scan)) (by show (regsS 3 _).1.length ≤ _; rw [regsS_len]; decide))) (by simp only [kP] <;> rfl) ?_
  refine OO ?_
  iterate 2 (refine EV ?_)
  refine ON ?_
  refine ⟨rfl, ?_, rfl, rfl⟩
  (repeat (first | exact trivial | refine leC ?_ | refine leK ?_ ?_)) <;> first | (refine .inl (congrArg V.bool ?_); (first | (simp [mailB, *]; done) | (simp [mailB, *] <;> omega) | (rw [Bool.eq_iff_iff]; simp [mailB, *] <;> omega) | (simp_all [mailB]; done))) | exact le_rfl' _
 refine OC (fun hb12 => ?_) (fun hb12 => ?_)
 ·
  try simp only [bsimp] at hb12
  rw [show readMailS t z = none from if_pos hb12]
  refine OQ ?_
  refine OkOps.ev tab_ok rfl (by simp [ev1, fillV, kE, kT, kL] <;> first | rfl | exact ⟨rfl, rfl⟩) (by simp only [kP] <;> rfl) ?_
  refine OE ?_
  iterate 2 (refine EV ?_)
  refine ON ?_
  refine Ok.ret ?_
  with_reducible repeat (first | refine thenQ_ret ?_ | refine blockQ_ret ?_)
  refine retQ.end (by show resVs tab _ [.cell 4 199, .tmp 5, .tmp 6] = _; simp only [kE, kT, kL, kC] <;> rfl) rfl ?_
  first | rfl | (simp [V.erase, V.trav, V.travL, V.travLL, packV, zz, zf, zy, zMail, zBox, zStore]; done)
 try simp only [bsimp] at hb12
 rw [show readMailS t z = some (mailS_ (⟨t, z, false⟩ : Scan), (ml4 (⟨t, z, false⟩ : Scan)).2.pos) from if_neg (by simp [hb12])]
 refine Ok.skip ?_
 refine Ok.seq ?_
 refine Ok.drawn 5 60 [1, 2, 3, 4] (by kernel_rfl) (by kernel_rfl) rfl ?_
 iterate 5 (refine SV ?_)
 refine SOps.nil ?_
 refine TOps.storeL tab_ok rfl rfl rfl (by simp only [kE, kT, kL, kC] <;> rfl) ⟨_, _, by simp only [kE]; rfl⟩ (by first | (simp [V.labelsL, V.labelsLL, V.labels, zz, zf, zy]; done) | (simp [-List.map_map, -List.map_set, -List.map_drop, -List.map_take, -List.map_tail, -List.drop_one, V.labelsL, V.labelsLL, V.labels, zz, zf, zy]; done)) (by simp only [eq_self, V.updL, V.travL, V.travLL, V.trav, updS, updP, and_self, true_and, and_true, false_and, and_false, Nat.reduceEqDiff, Nat.reduceSub, Nat.le_refl, Nat.zero_le, ↓reduceIte, if_true, if_false, kP, zz, zf, zy] <;> rfl) (rfl) (LateOk.cons (i := 1) tab_ok (by rfl) (by rfl) (by (try simp only [List.getElem_toArray, List.getElem_cons_succ, List.getElem_cons_zero]); exact (by simp only [kE, kT, kL, kC] <;> rfl)) (by show nth _ 56 = _; simp only [kE, kT, kL, kC] <;> rfl) (LateOk.cons (i := 2) tab_ok (by rfl) (by rfl) (by (try simp only [List.getElem_toArray, List.getElem_cons_succ, List.getElem_cons_zero]); exact (by simp only [kE, kT, kL, kC] <;> rfl)) (by show nth _ 57 = _; simp only [kE, kT, kL, kC] <;> rfl) (LateOk.cons (i := 3) tab_ok (by rfl) (by rfl) (by (try simp only [List.getElem_toArray, List.getElem_cons_succ, List.getElem_cons_zero]); exact (by simp only [kE, kT, kL, kC] <;> rfl)) (by show nth _ 58 = _; simp only [kE, kT, kL, kC] <;> rfl) (LateOk.cons (i := 4) tab_ok (by rfl) (by rfl) (by (try simp only [List.getElem_toArray, List.getElem_cons_succ, List.getElem_cons_zero]); exact (by simp only [kE, kT, kL, kC] <;> rfl)) (by show nth _ 59 = _; simp only [kE, kT, kL, kC] <;> rfl) LateOk.nil)))) ?_
 refine TOps.evL tab_ok rfl (by simp only [kE, kT, kL, kC] <;> rfl) (by simp only [kP] <;> rfl) (LateOk.cons (i := 1) tab_ok (by rfl) (by rfl) (by (try simp only [List.getElem_toArray, List.getElem_cons_succ, List.getElem_cons_zero]); exact (by simp only [kE, kT, kL, kC] <;> rfl)) (by show nth _ 56 = _; simp only [kE, kT, kL, kC] <;> rfl) (LateOk.cons (i := 2) tab_ok (by rfl) (by rfl) (by (try simp only [List.getElem_toArray, List.getElem_cons_succ, List.getElem_cons_zero]); exact (by simp only [kE, kT, kL, kC] <;> rfl)) (by show nth _ 57 = _; simp only [kE, kT, kL, kC] <;> rfl) (LateOk.cons (i := 3) tab_ok (by rfl) (by rfl) (by (try simp only [List.getElem_toArray, List.getElem_cons_succ, List.getElem_cons_zero]); exact (by simp only [kE, kT, kL, kC] <;> rfl)) (by show nth _ 58 = _; simp only [kE, kT, kL, kC] <;> rfl) (LateOk.cons (i := 4) tab_ok (by rfl) (by rfl) (by (try simp only [List.getElem_toArray, List.getElem_cons_succ, List.getElem_cons_zero]); exact (by simp only [kE, kT, kL, kC] <;> rfl)) (by show nth _ 59 = _; simp only [kE, kT, kL, kC] <;> rfl) LateOk.nil)))) ?_
 refine TOps.evL tab_ok rfl (by simp only [kE, kT, kL, kC] <;> rfl) (by simp only [kP] <;> rfl) (LateOk.cons (i := 1) tab_ok (by rfl) (by rfl) (by (try simp only [List.getElem_toArray, List.getElem_cons_succ, List.getElem_cons_zero]); exact (by simp only [kE, kT, kL, kC] <;> rfl)) (by show nth _ 56 = _; simp only [kE, kT, kL, kC] <;> rfl) (LateOk.cons (i := 2) tab_ok (by rfl) (by rfl) (by (try simp only [List.getElem_toArray, List.getElem_cons_succ, List.getElem_cons_zero]); exact (by simp only [kE, kT, kL, kC] <;> rfl)) (by show nth _ 57 = _; simp only [kE, kT, kL, kC] <;> rfl) (LateOk.cons (i := 3) tab_ok (by rfl) (by rfl) (by (try simp only [List.getElem_toArray, List.getElem_cons_succ, List.getElem_cons_zero]); exact (by simp only [kE, kT, kL, kC] <;> rfl)) (by show nth _ 58 = _; simp only [kE, kT, kL, kC] <;> rfl) (LateOk.cons (i := 4) tab_ok (by rfl) (by rfl) (by (try simp only [List.getElem_toArray, List.getElem_cons_succ, List.getElem_cons_zero]); exact (by simp only [kE, kT, kL, kC] <;> rfl)) (by show nth _ 59 = _; simp only [kE, kT, kL, kC] <;> rfl) LateOk.nil)))) ?_
 refine TOps.nil ?_
 refine Ok.ret ?_
 with_reducible repeat (first | refine thenQ_ret ?_ | refine blockQ_ret ?_)
 refine retQ.end (by show resVs tab _ [.cell 4 199, .tmp 5, .tmp 6] = _; simp only [kE, kT, kL, kC] <;> rfl) rfl ?_
 first | rfl | (simp [V.erase, V.trav, V.travL, V.travLL, packV, zz, zf, zy, zMail, zBox, zStore]; done)
theorem c_spec_l10Ints (c : Scan) (m : Nat) (L : Nat) (ht : c.text.length ≤ 4611686018427387904) (hm : m ≤ 100) {h : List V} {n : Nat} (hlt : Ahd n h) (hL : L + 1 < n) : OkCall Tryz.prog 103 [.ptr (L + 1) 0 0 (cScan c), .int .i64 (m : Int)] h n (fun r h1 n1 => r = .sl n 1 0 ((intsS m c).1.map cZ) ∧ h1 = V.updL (L + 1) 0 (cScan (intsS m c).2) h ∧ n1 = n + 200) := by
 obtain ⟨n, rfl⟩ : ∃ k, n = k + 1 := ⟨n - 1, by omega⟩
 have nq01 : ((L + 1 : Nat) = n + 1) = False := eq_false (by omega)
 have nq02 : ((L + 1 : Nat) = 0) = False := eq_false (by omega)
 have nq10 : ((n + 1 : Nat) = L + 1) = False := eq_false (by omega)
 have nq12 : ((n + 1 : Nat) = 0) = False := eq_false (by omega)
 have nq20 : ((0 : Nat) = L + 1) = False := eq_false (by omega)
 have nq21 : ((0 : Nat) = n + 1) = False := eq_false (by omega)
 refine OkCall.enter' tab_ok Tryz.func103 rfl (t := [.ptr (L + 1) 0 0 (cScan c), .int .i64 (m : Int), .any, .any, .any, .any, .any, .any, .any, .any, .any, .any, .any, .any, .any, .any, .any, .any, .any, .any, .any, .any, .any, .any, .any, .any, .any, .any, .any, .any, .any, .any, .any, .any]) rfl ?_
 refine OQ ?_
 refine EV ?_
 refine ON ?_
 refine OQ ?_
 refine EV ?_
 refine OkOps.upd rfl rfl (by simp only [kE, kT, kL, kC] <;> rfl) (by simp only [kE, kT, kL, kC] <;> rfl) cl101 (fun h => c_spec_l05Var c L ht) (by simp only [eq_self, V.updL, V.travL, V.travLL, V.trav, updS, updP, and_self, true_and, and_true, false_and, and_false, Nat.reduceEqDiff, Nat.reduceSub, Nat.le_refl, Nat.zero_le, ↓reduceIte, if_true, if_false, kP, zz, zf, zy, nq01, nq02, nq10, nq12, nq20, nq21] <;> rfl) (rfl) ?_
 refine EV ?_
 refine ON ?_
 refine Ok.seq ?_
 refine Ok.bump (n' := n + 1 + 1) (by omega) ?_
 refine Ok.region ?_
 iterate 2 (refine EV ?_)
 refine ON ?_
 refine Ok.seq ?_
 refine OQ ?_
 refine EV ?_
 refine ON ?_
 refine Ok.block ?_
 refine Ok.loopHN (τ := Nat × Scan × List Int × Nat) (fun x => [(0, .ptr (L + 1) 0 0 (cScan x.2.1)), (6, .sl (n + 1) 1 0 (x.2.2.1.map cZ)), (7, .int .i64 (x.1 : Int))]) [8, 9, 10, 11, 12, 13, 14, 15, 16, 17, 18, 19, 20, 21, 22, 23, 24, 25, 26, 27, 28, 29, 30, 31, 32] (fun x => by simp only [kover] <;> rfl) (fun x => V.updL (L + 1) 0 (cScan x.2.1) h) (fun x => n + 1 + 1 + x.2.2.2) (fun x => x.1 ≤ m + 1 ∧ x.2.1.text = c.text ∧ x.2.2.1.length = x.1 ∧ x.2.2.2 ≤ x.1 ∧ (intsGo m (m + 2 - x.1) x.1 (scanNum c).1 x.2.1 x.2.2.1) = intsS m c) (fun x => m + 2 - x.1) (0, (scanNum c).2, [], 0) (by (repeat (first | exact trivial | refine leC ?_ | refine leK ?_ ?_)) <;> first | (first | exact le_rfl' _ | exact le_nil _ 1 | exact le_eqm rfl) | exact le_rfl' _) (rfl) ((by dsimp only; omega)) (⟨Nat.zero_le _, scanNum_text c, rfl, Nat.le_refl _, rfl⟩) ?_
 rintro ⟨i, cc, l, k⟩ ⟨h1, hct, hll, hk, hgo⟩
 dsimp only at h1 hct hll hk hgo ⊢
 rw [show m + 2 - i = (m + 2 - (i + 1)) + 1 by omega, intsGo_s] at hgo
 refine Ok.seq ?_
 refine Ok.seqC [(25, .bool (decide (i < (scanNum c).1 ∧ i ≤ m ∧ cc.bad = false)))] [11, 12, 13, 14, 15, 16, 17, 18, 19, 20, 21, 22, 23, 24] (by simp only [kover] <;> rfl) ?_ ?_
 ·
  refine Ok.region ?_
  iterate 4 (refine EV ?_)
  refine OP (d := 14) (fun hg4_3 => ?_) (fun hg4_3 => ?_)
  ·
   try simp only [bsimp] at hg4_3
   refine OX ?_
   refine OX ?_
   refine OO ?_
   iterate 3 (refine EV ?_)
   refine OP (d := 19) (fun hg4_8 => ?_) (fun hg4_8 => ?_)
   ·
    try simp only [bsimp] at hg4_8
    iterate 4 (refine OX ?_)
    refine OO ?_
    iterate 2 (refine EV ?_)
    refine ON ?_
    refine ⟨rfl, ?_, rfl, rfl⟩
    (repeat (first | exact trivial | refine leC ?_ | refine leK ?_ ?_)) <;> first | (refine .inl (congrArg V.bool ?_); rw [Bool.eq_iff_iff]; simp_all <;> omega) | exact le_rfl' _
   try simp only [bsimp] at hg4_8
   iterate 5 (refine OU ?_)
   refine EV ?_
   refine ON ?_
   refine ⟨rfl, ?_, rfl, rfl⟩
   (repeat (first | exact trivial | refine leC ?_ | refine leK ?_ ?_)) <;> first | (refine .inl (congrArg V.bool ?_); rw [Bool.eq_iff_iff]; simp_all <;> omega) | exact le_rfl' _
  try simp only [bsimp] at hg4_3
  iterate 3 (refine OU ?_)
  iterate 2 (refine EV ?_)
  iterate 5 (refine OU ?_)
  refine EV ?_
  refine ON ?_
  refine ⟨rfl, ?_, rfl, rfl⟩
  (repeat (first | exact trivial | refine leC ?_ | refine leK ?_ ?_)) <;> first | (refine .inl (congrArg V.bool ?_); rw [Bool.eq_iff_iff]; simp_all <;> omega) | exact le_rfl' _
 refine OC (fun hb4 => ?_) (fun hb4 => ?_)
 ·
  try simp only [bsimp] at hb4
  have hq : i < (scanNum c).1 ∧ i ≤ m ∧ cc.bad = false := hb4
  rw [if_pos hq] at hgo
  refine Ok.skip ?_
  refine Ok.seq ?_
  refine Ok.block ?_
  refine Ok.region ?_
  iterate 2 (refine EV ?_)
  refine OkOps.upd rfl rfl (by simp only [kE, kT, kL, kC] <;> rfl) (by simp only [kE, kT, kL, kC] <;> rfl) cl101 (fun h => c_spec_l05Var cc L (by rw [hct]; exact ht)) (by simp only [eq_self, V.updL, V.travL, V.travLL, V.trav, updS, updP, and_self, true_and, and_true, false_and, and_false, Nat.reduceEqDiff, Nat.reduceSub, Nat.le_refl, Nat.zero_le, ↓reduceIte, if_true, if_false, kP, zz, zf, zy, nq01, nq02, nq10, nq12, nq20, nq21] <;> rfl) (upd_twice (by simp [V.travL, V.trav, updS, zz, zf, zy]) h) ?_
  refine OkOps.ev tab_ok rfl (ev_bs (by simp only [kT] <;> rfl) (by simp only [kT] <;> rfl) (by decide) (by decide) (by simp only [kE, kT, kL, kC, List.map_cons, List.map_nil] <;> rfl) (by simp only [kfe, beq_self_eq_true, Bool.and_true, Bool.true_and, decide_true, Nat.zero_add, Nat.lt_add_one, Nat.reduceLT, Nat.reduceAdd, Nat.zero_lt_succ, if_true, ↓reduceIte] <;> rfl)) (by simp only [kP] <;> rfl) ?_
  refine OkOps.append tab_ok rfl rfl (by simp only [kT] <;> rfl) (by simp only [kT] <;> rfl) (by decide) rfl (by simp only [kE, kT, kL, kC] <;> rfl) (.inl ⟨_, _, by simp only [kE, kT, kL, kC] <;> rfl⟩) (by omega) (by omega) (by simp only [List.length_map, List.length_cons, List.length_nil, hll]; omega) (by simp only [List.length_map, List.length_cons, List.length_nil, hll]; omega) (by simp [V.one]) (by simp only [V.killL, V.killLL, V.travL, V.travLL, V.trav, killS, killP, Nat.reduceEqDiff, ↓reduceIte, reduceCtorEq, if_true, if_false, List.append_nil, List.nil_append, List.cons_append, zz, zf, zy, nq01, nq02, nq10, nq12, nq20, nq21] <;> rfl) (by simp only [V.killL, V.killLL, V.travL, V.travLL, V.trav, killS, killP, Nat.reduceEqDiff, ↓reduceIte, reduceCtorEq, if_true, if_false, List.append_nil, List.nil_append, List.cons_append, zz, zf, zy, nq01, nq02, nq10, nq12, nq20, nq21, kP] <;> rfl) (Ahd.killL (by repeat (first | exact hlt | exact hlt.mono (by omega) | refine Ahd.upd ?_ (Ahd.scan (by omega) _)))) ?_
  refine EV ?_
  refine ON ?_
  refine Ok.region ?_
  iterate 3 (refine EV ?_)
  refine ON ?_
  refine ⟨(i + 1, (scanNum cc).2, l ++ [((scanNum cc).1 : Int)], k + 1), ?_, rfl, (by dsimp only; omega), ⟨by dsimp only; omega, by dsimp only; rw [scanNum_text, hct], by dsimp only; rw [List.length_append, hll]; rfl, by dsimp only; omega, hgo⟩, by dsimp only; omega⟩
  (repeat (first | exact trivial | refine leC ?_ | refine leK ?_ ?_)) <;> first | (first | exact le_rfl' _ | (rw [wrap_succ (by omega)]; exact le_rfl' _) | (refine le_eqm ?_; rw [List.map_append]; rfl)) | exact le_rfl' _
 try simp only [bsimp] at hb4
 have hq : ¬ (i < (scanNum c).1 ∧ i ≤ m ∧ cc.bad = false) := hb4
 rw [if_neg hq] at hgo
 obtain ⟨rfl, rfl⟩ := Prod.mk.inj hgo
 refine Ok.exit ?_
 refine Ok.seq ?_
 refine Ok.bump (n' := n + 1 + 200) (by omega) ?_
 refine Ok.region ?_
 iterate 2 (refine EV ?_)
 refine ON ?_
 refine Ok.ret ?_
 with_reducible repeat (first | refine thenQ_ret ?_ | refine blockQ_ret ?_)
 refine RT ?_
 exact ⟨rfl, rfl, rfl⟩
theorem w_spec_ReadBox (t : Str) (z : Int) (ht : t.length ≤ 4611686018427387904) : Weak Tryz.prog 102 [.str t, .int .i64 z] (vBX (readBoxS t z)) := by
 refine Weak.enter tab_ok Tryz.func102 rfl (.inr (by simp [V.labelsL, V.labels, zz, zf, zy])) (t := [.str t, .int .i64 z, .any, .any, .any, .any, .any, .any, .any, .any, .any, .any, .any, .any, .any, .any, .any, .any, .any, .any, .any, .any, .any, .any, .any, .any, .any, .any, .any, .any, .any, .any, .any, .any, .any, .any, .any, .any, .any, .any, .any, .any, .any, .any, .any, .any, .any, .any, .any, .any, .any, .any, .any, .any, .any, .any, .any, .any, .any, .any, .any, .any, .any, .any, .any, .any, .any, .any, .any, .any, .any, .any, .any, .any, .any, .any, .any, .any, .any, .any, .any, .any, .any, .any, .any, .any, .any, .any, .any, .any, .any, .any, .any, .any]) rfl ?_
 refine OQ ?_
 iterate 3 (refine EV ?_)
 refine ON ?_
 refine OQ ?_
 iterate 2 (refine EV ?_)
 refine OkOps.ev tab_ok rfl (by simp [ev1, fillV, kE, kT, kL] <;> first | rfl | exact ⟨rfl, rfl⟩) (by simp only [kP] <;> rfl) ?_
 iterate 2 (refine EV ?_)
 refine ON ?_
 refine Ok.seq ?_
 refine Ok.bump (n' := 4) (by decide) ?_
 refine Ok.region ?_
 refine EV ?_
 refine OkOps.upd rfl rfl (by simp only [kE, kT, kL, kC] <;> rfl) (by simp only [kE, kT, kL, kC] <;> rfl) cl101 (fun h => c_spec_l05Var (⟨t, z, false⟩ : Scan) 1 ht) (by simp only [eq_self, V.updL, V.travL, V.travLL, V.trav, updS, updP, and_self, true_and, and_true, false_and, and_false, Nat.reduceEqDiff, Nat.reduceSub, Nat.le_refl, Nat.zero_le, ↓reduceIte, if_true, if_false, kP, zz, zf, zy] <;> rfl) (rfl) ?_
 refine OkOps.ev tab_ok rfl (by simp [ev1, fillV, kE, kT, kL] <;> first | rfl | exact ⟨rfl, rfl⟩) (by simp only [kP] <;> rfl) ?_
 refine OkOps.nilAgg 20 (cs' := [.int .i64 ((bx1 (⟨t, z, false⟩ : Scan)).1 : Int), .str [], .int .i64 0, .int .i64 0, .int .i64 0, .sl 3 4 0 [], .sl 0 1 0 []]) (by rfl) (by exact ⟨.inl rfl, .inl rfl, .inl rfl, .inl rfl, .inl rfl, le_nil 3 4, le_nil 0 1, trivial⟩) (by simp only [List.set_cons_succ, List.set_cons_zero] <;> rfl) ?_
 refine EV ?_
 refine OE ?_
 refine ON ?_
 refine OQ ?_
 refine EV ?_
 refine OkOps.upd rfl rfl (by simp only [kE, kT, kL, kC] <;> rfl) (by simp only [kE, kT, kL, kC] <;> rfl) cl156 (fun h => c_spec_l05Short (bx1 (⟨t, z, false⟩ : Scan)).2 1 (by simp only [scanNum_text, scanShort_text]; exact ht)) (by simp only [eq_self, V.updL, V.travL, V.travLL, V.trav, updS, updP, and_self, true_and, and_true, false_and, and_false, Nat.reduceEqDiff, Nat.reduceSub, Nat.le_refl, Nat.zero_le, ↓reduceIte, if_true, if_false, kP, zz, zf, zy] <;> rfl) (rfl) ?_
 refine EV ?_
 refine OE ?_
 refine ON ?_
 refine OQ ?_
 refine EV ?_
 refine OkOps.upd rfl rfl (by simp only [kE, kT, kL, kC] <;> rfl) (by simp only [kE, kT, kL, kC] <;> rfl) cl101 (fun h => c_spec_l05Var (bx2 (⟨t, z, false⟩ : Scan)).2 1 (by simp only [scanNum_text, scanShort_text]; exact ht)) (by simp only [eq_self, V.updL, V.travL, V.travLL, V.trav, updS, updP, and_self, true_and, and_true, false_and, and_false, Nat.reduceEqDiff, Nat.reduceSub, Nat.le_refl, Nat.zero_le, ↓reduceIte, if_true, if_false, kP, zz, zf, zy] <;> rfl) (rfl) ?_
 iterate 2 (refine EV ?_)
 refine OE ?_
 refine ON ?_
 refine OQ ?_
 refine EV ?_
 refine OkOps.upd rfl rfl (by simp only [kE, kT, kL, kC] <;> rfl) (by simp only [kE, kT, kL, kC] <;> rfl) cl101 (fun h => c_spec_l05Var (bx3 (⟨t, z, false⟩ : Scan)).2 1 (by simp only [scanNum_text, scanShort_text]; exact ht)) (by simp only [eq_self, V.updL, V.travL, V.travLL, V.trav, updS, updP, and_self, true_and, and_true, false_and, and_false, Nat.reduceEqDiff, Nat.reduceSub, Nat.le_refl, Nat.zero_le, ↓reduceIte, if_true, if_false, kP, zz, zf, zy] <;> rfl) (rfl) ?_
 iterate 2 (refine EV ?_)
 refine OE ?_
 refine ON ?_
 refine OQ ?_
 refine EV ?_
 refine OkOps.upd rfl rfl (by simp only [kE, kT, kL, kC] <;> rfl) (by simp only [kE, kT, kL, kC] <;> rfl) cl101 (fun h => c_spec_l05Var (bx4 (⟨t, z, false⟩ : Scan)).2 1 (by simp only [scanNum_text, scanShort_text]; exact ht)) (by simp only [eq_self, V.updL, V.travL, V.travLL, V.trav, updS, updP, and_self, true_and, and_true, false_and, and_false, Nat.reduceEqDiff, Nat.reduceSub, Nat.le_refl, Nat.zero_le, ↓reduceIte, if_true, if_false, kP, zz, zf, zy] <;> rfl) (rfl) ?_
 refine EV ?_
 refine OE ?_
 refine ON ?_
 refine OQ ?_
 refine EV ?_
 refine OkOps.upd rfl rfl (by simp only [kE, kT, kL, kC] <;> rfl) (by simp only [kE, kT, kL, kC] <;> rfl) cl101 (fun h => c_spec_l05Var (bx5 (⟨t, z, false⟩ : Scan)).2 1 (by simp only [scanNum_text, scanShort_text]; exact ht)) (by simp only [eq_self, V.updL, V.travL, V.travLL, V.trav, updS, updP, and_self, true_and, and_true, false_and, and_false, Nat.reduceEqDiff, Nat.reduceSub, Nat.le_refl, Nat.zero_le, ↓reduceIte, if_true, if_false, kP, zz, zf, zy] <;> rfl) (rfl) ?_
 refine EV ?_
 refine ON ?_
 refine Ok.seq ?_
 refine OQ ?_
 refine EV ?_
 refine ON ?_
 refine Ok.block ?_
 refine Ok.bump (n' := 9) (by omega) ?_
 refine Ok.loopWZ (τ := Nat × Scan × List Mail) (fun x => [(7, .ptr 2 0 0 (cScan x.2.1)), (8, .ptr 4 0 0 [.int .i64 ((bx1 (⟨t, z, false⟩ : Scan)).1 : Int), .str (bx2 (⟨t, z, false⟩ : Scan)).1, .int .i64 ((bx3 (⟨t, z, false⟩ : Scan)).1 : Int), .int .i64 ((bx4 (⟨t, z, false⟩ : Scan)).1 : Int), .int .i64 ((bx5 (⟨t, z, false⟩ : Scan)).1 : Int), .sl 3 4 0 (x.2.2.map cMail), .sl 0 1 0 []]), (10, .int .i64 (x.1 : Int))]) [5, 6, 11, 12, 13, 14, 15, 16, 17, 18, 19, 20, 21, 22, 23, 24, 25, 26, 27, 28, 29, 30, 31, 32, 33, 34, 35, 36, 37, 38, 39, 40, 41, 42, 43, 44, 45, 46, 47, 48, 49, 50, 51, 52, 53, 54, 55, 56, 57, 58, 59, 60, 61, 62, 63, 64, 65, 66, 67, 68, 69, 70, 71, 72, 73, 74, 75] (fun x => by simp only [kover] <;> rfl) (fun x => x.1 ≤ 11 ∧ x.2.1.text = t ∧ x.2.2.length = x.1 ∧ (∀ m ∈ x.2.2, mailOk m = true) ∧ mailsGo (12 - x.1) x.1 (bx6 (⟨t, z, false⟩ : Scan)).1 x.2.1 x.2.2 = boxM (⟨t, z, false⟩ : Scan)) (fun x => 12 - x.1) (0, (bx6 (⟨t, z, false⟩ : Scan)).2, []) (by omega) (by (repeat (first | exact trivial | refine leC ?_ | refine leK ?_ ?_)) <;> first | (first | exact le_rfl' _ | exact le_eqm rfl) | exact le_rfl' _) (⟨Nat.zero_le _, (by simp only [scanNum_text, scanShort_text]), rfl, (fun m hm => by cases hm), rfl⟩) ?_
 rintro ⟨i, ⟨ct, cp, cb⟩, l⟩ ⟨h1, hct, hll, hok, hgo⟩
 dsimp only at h1 hct hll hok hgo ⊢
 subst ct
 rw [show 12 - i = (12 - (i + 1)) + 1 by omega, mailsGo_s] at hgo
 refine Ok.seq ?_
 refine Ok.seqC [(50, .bool (decide (i < (bx6 (⟨t, z, false⟩ : Scan)).1 ∧ i ≤ 10 ∧ cb = false)))] [37, 38, 39, 40, 41, 42, 43, 44, 45, 46, 47, 48, 49] (by simp only [kover] <;> rfl) ?_ ?_
 ·
  refine Ok.region ?_
  iterate 4 (refine EV ?_)
  refine OP (d := 40) (fun hg9_3 => ?_) (fun hg9_3 => ?_)
  ·
   try simp only [bsimp] at hg9_3
   refine OX ?_
   refine OO ?_
   iterate 3 (refine EV ?_)
   refine OP (d := 44) (fun hg9_7 => ?_) (fun hg9_7 => ?_)
   ·
    try simp only [bsimp] at hg9_7
    iterate 4 (refine OX ?_)
    refine OO ?_
    iterate 2 (refine EV ?_)
    refine ON ?_
    refine ⟨rfl, ?_, rfl, rfl⟩
    (repeat (first | exact trivial | refine leC ?_ | refine leK ?_ ?_)) <;> first | (refine .inl (congrArg V.bool ?_); clear hgo hok hll; first | (refine (decide_eq_false (fun q => ?_)).symm; obtain ⟨q1, q2, q3⟩ := q; first | omega | (simp_all; done)) | (rw [Bool.eq_iff_iff]; simp_all <;> omega)) | exact le_rfl' _
   try simp only [bsimp] at hg9_7
   iterate 5 (refine OU ?_)
   refine EV ?_
   refine ON ?_
   refine ⟨rfl, ?_, rfl, rfl⟩
   (repeat (first | exact trivial | refine leC ?_ | refine leK ?_ ?_)) <;> first | (refine .inl (congrArg V.bool ?_); clear hgo hok hll; first | (refine (decide_eq_false (fun q => ?_)).symm; obtain ⟨q1, q2, q3⟩ := q; first | omega | (simp_all; done)) | (rw [Bool.eq_iff_iff]; simp_all <;> omega)) | exact le_rfl' _
  try simp only [bsimp] at hg9_3
  refine OU ?_
  refine OU ?_
  iterate 2 (refine EV ?_)
  iterate 5 (refine OU ?_)
  refine EV ?_
  refine ON ?_
  refine ⟨rfl, ?_, rfl, rfl⟩
  (repeat (first | exact trivial | refine leC ?_ | refine leK ?_ ?_)) <;> first | (refine .inl (congrArg V.bool ?_); clear hgo hok hll; first | (refine (decide_eq_false (fun q => ?_)).symm; obtain ⟨q1, q2, q3⟩ := q; first | omega | (simp_all; done)) | (rw [Bool.eq_iff_iff]; simp_all <;> omega)) | exact le_rfl' _
 refine OC (fun hb9 => ?_) (fun hb9 => ?_)
 ·
  try simp only [bsimp] at hb9
  have hq : i < (bx6 (⟨t, z, false⟩ : Scan)).1 ∧ i ≤ 10 ∧ cb = false := hb9
  rw [if_pos hq] at hgo
  refine Ok.skip ?_
  refine Ok.seq ?_
  refine Ok.block ?_
  refine OQ ?_
  iterate 5 (refine EV ?_)
  refine OW cl157 (w_spec_ReadMail t cp ht) ?_
  iterate 5 (refine EV ?_)
  refine OE ?_
  iterate 2 (refine EV ?_)
  refine ON ?_
  refine Ok.seq ?_
  refine OQ ?_
  iterate 2 (refine EV ?_)
  refine ON ?_
  refine OC (fun hb12 => ?_) (fun hb12 => ?_)
  ·
   try simp only [bsimp] at hb12
   have hr : readMailS t cp = none := by cases hq : readMailS t cp <;> simp_all
   rw [show (readMailS t cp).bind _ = none by rw [hr]; rfl] at hgo
   rw [readBox_n hgo.symm]
   refine OQ ?_
   refine OkOps.ev tab_ok rfl (by simp [ev1, fillV, kE, kT, kL] <;> first | rfl | exact ⟨rfl, rfl⟩) (by simp only [kP] <;> rfl) ?_
   refine OE ?_
   iterate 2 (refine EV ?_)
   refine ON ?_
   refine Ok.ret ?_
   with_reducible repeat (first | refine thenQ_ret ?_ | refine blockQ_ret ?_)
   refine retQ.end (by show resVs tab _ [.cell 4 140, .tmp 5, .tmp 6] = _; simp only [kE, kT, kL, kC] <;> rfl) rfl ?_
   first | rfl | (simp [V.erase, V.trav, V.travL, V.travLL, packV, zz, zf, zy, zMail, zBox, zStore]; done) | (simp [V.erase, V.trav, V.travL, V.travLL, packV, zz, zf, zy]; exact ⟨rfl, rfl, rfl, rfl, rfl, rfl, rfl⟩)
  try simp only [bsimp] at hb12
  obtain ⟨⟨m, e⟩, hr⟩ : ∃ r, readMailS t cp = some r := by cases hq : readMailS t cp <;> simp_all
  have hmo := readMail_ok hr
  rw [show (⟨t, cp, cb⟩ : Scan).text = t from rfl, show (⟨t, cp, cb⟩ : Scan).pos = cp from rfl, hr, Option.bind_some] at hgo
  simp only [hr, Option.getD_some]
  refine Ok.skip ?_
  refine OQ ?_
  iterate 3 (refine EV ?_)
  refine OkOps.ev tab_ok rfl (ev_bs (by simp only [kT] <;> rfl) (by simp only [kT] <;> rfl) (by decide) (by decide) (by simp only [kE, kT, kL, kC, List.map_cons, List.map_nil] <;> rfl) (by simp only [kfe, beq_self_eq_true, Bool.and_true, Bool.true_and, decide_true, Nat.zero_add, Nat.lt_add_one, Nat.reduceLT, Nat.reduceAdd, Nat.zero_lt_succ, if_true, ↓reduceIte] <;> rfl)) (by simp only [kP] <;> rfl) ?_
  refine OkOps.append tab_ok rfl rfl (by simp only [kT] <;> rfl) (by simp only [kT] <;> rfl) (by decide) rfl (by simp only [kE, kT, kL, kC] <;> rfl) (.inl ⟨_, _, by simp only [kE, kT, kL, kC] <;> rfl⟩) (by omega) (by omega) (by simp only [List.length_map, List.length_cons, List.length_nil, hll]; omega) (by simp only [List.length_map, List.length_cons, List.length_nil, hll]; omega) (by simp [V.one]) (by simp only [V.killL, V.killLL, V.travL, V.travLL, V.trav, killS, killP, Nat.reduceEqDiff, ↓reduceIte, reduceCtorEq, if_true, if_false, List.append_nil, List.nil_append, List.cons_append, zz, zf, zy] <;> rfl) (by simp only [V.killL, V.killLL, V.travL, V.travLL, V.trav, killS, killP, Nat.reduceEqDiff, ↓reduceIte, reduceCtorEq, if_true, if_false, List.append_nil, List.nil_append, List.cons_append, zz, zf, zy, kP] <;> rfl) (rfl) ?_
  refine EV ?_
  refine OE ?_
  refine ON ?_
  refine Ok.region ?_
  iterate 4 (refine EV ?_)
  refine OE ?_
  refine ON ?_
  refine Ok.region ?_
  iterate 3 (refine EV ?_)
  refine ON ?_
  refine ⟨(i + 1, ⟨t, e, cb⟩, l ++ [m]), ?_, rfl, ⟨by dsimp only; omega, rfl, by dsimp only; rw [List.length_append, hll]; rfl, by intro q hq; rcases List.mem_append.1 hq with h | h; exact hok q h; (obtain rfl := List.mem_singleton.1 h; exact hmo), hgo⟩, by dsimp only; omega⟩
  simp only [V.renL, V.travL, V.travLL, V.trav, frz, zz, zf, zy, Nat.reduceLeDiff, ↓reduceIte]
  (repeat (first | exact trivial | refine leC ?_ | refine leK ?_ ?_)) <;> first | (first | exact le_rfl' _ | (rw [wrap_add_one (by omega)]; exact le_rfl' _) | (rw [wrap_succ (by omega)]; exact le_rfl' _) | exact le_eqm rfl | (refine le_eqm ?_; show _ = V.ptr 4 0 0 [_, _, _, _, _, .sl 3 4 0 ((l ++ [m]).map cMail), _]; rw [List.map_append]; rfl)) | exact le_rfl' _
 try simp only [bsimp] at hb9
 have hq : ¬ (i < (bx6 (⟨t, z, false⟩ : Scan)).1 ∧ i ≤ 10 ∧ cb = false) := hb9
 rw [if_neg hq] at hgo
 have hM : boxM (⟨t, z, false⟩ : Scan) = some (l, (⟨t, cp, cb⟩ : Scan)) := hgo.symm
 refine Ok.exit ?_
 refine OQ ?_
 refine EV ?_
 refine OkOps.updF (k := 200) rfl rfl (by simp only [kE, kT, kL, kC] <;> rfl) (by simp only [kE, kT, kL, kC] <;> rfl) cl103 (by intro y hy; simp [V.labelsL, V.labels, V.labelsLL, zz, zf, zy, lz] at hy; omega) (Ahd.nil _) (fun h hlt => c_spec_l10Ints (⟨t, cp, cb⟩ : Scan) 40 1 ht (by decide) hlt (by omega)) (by first | rfl | (simp only [Nat.add_zero, Nat.reduceAdd] <;> rfl)) (by simp only [eq_self, V.updL, V.travL, V.travLL, V.trav, updS, updP, and_self, true_and, and_true, false_and, and_false, Nat.reduceEqDiff, Nat.reduceSub, Nat.le_refl, Nat.zero_le, ↓reduceIte, if_true, if_false, kP, zz, zf, zy] <;> rfl) (rfl) ?_
 refine EV ?_
 refine OE ?_
 refine ON ?_
 refine Ok.seq ?_
 refine Ok.seqC [(87, .bool (boxB t z l (⟨t, cp, cb⟩ : Scan)))] [79, 80, 81, 82, 83, 84, 85, 86] (by simp only [kover] <;> rfl) ?_ ?_
 ·
  refine Ok.region ?_
  iterate 5 (refine EV ?_)
  refine OP (d := 83) (fun hg17_4 => ?_) (fun hg17_4 => ?_)
  ·
   try simp only [bsimp] at hg17_4
   iterate 3 (refine OU ?_)
   refine EV ?_
   refine ON ?_
   refine ⟨rfl, ?_, rfl, rfl⟩
   (repeat (first | exact trivial | refine leC ?_ | refine leK ?_ ?_)) <;> first | (refine .inl (congrArg V.bool ?_); (first | (simp [boxB, *]; done) | (simp [boxB, *] <;> omega) | (rw [Bool.eq_iff_iff]; simp [boxB, *] <;> omega) | (simp_all [boxB]; done))) | exact le_rfl' _
  try simp only [bsimp] at hg17_4
  refine OX ?_
  refine OO ?_
  refine OkOps.S0 rfl (OpS.weakE rfl (by simp only [kE, kT, kL, kC] <;> rfl) (by simp only [kE, kT, kL, kC, V.eraseL, V.erase, V.travL, V.trav, zz, zf, zy] <;> rfl) cl148 (by simp [V.labels, V.labelsL, V.labelsLL, zz, zf, zy]) (w_spec_BoxOk (bxV (⟨t, z, false⟩ : Scan) l (intsS 40 (⟨t, cp, cb⟩ : Scan)).1) (bxV_sm (by omega) hok))) (by simp only [kP] <;> rfl) ?_
  refine OO ?_
  iterate 2 (refine EV ?_)
  refine ON ?_
  refine ⟨rfl, ?_, rfl, rfl⟩
  (repeat (first | exact trivial | refine leC ?_ | refine leK ?_ ?_)) <;> first | (refine .inl (congrArg V.bool ?_); (first | (simp [boxB, *]; done) | (simp [boxB, *] <;> omega) | (rw [Bool.eq_iff_iff]; simp [boxB, *] <;> omega) | (simp_all [boxB]; done))) | exact le_rfl' _
 refine OC (fun hb17 => ?_) (fun hb17 => ?_)
 ·
  try simp only [bsimp] at hb17
  rw [readBox_b hM hb17]
  refine OQ ?_
  refine OkOps.ev tab_ok rfl (by simp [ev1, fillV, kE, kT, kL] <;> first | rfl | exact ⟨rfl, rfl⟩) (by simp only [kP] <;> rfl) ?_
  refine OE ?_
  iterate 2 (refine EV ?_)
  refine ON ?_
  refine Ok.ret ?_
  with_reducible repeat (first | refine thenQ_ret ?_ | refine blockQ_ret ?_)
  refine retQ.end (by show resVs tab _ [.cell 4 140, .tmp 5, .tmp 6] = _; simp only [kE, kT, kL, kC] <;> rfl) rfl ?_
  first | rfl | (simp [V.erase, V.trav, V.travL, V.travLL, packV, zz, zf, zy, zMail, zBox, zStore]; done) | (simp [V.erase, V.trav, V.travL, V.travLL, packV, zz, zf, zy]; exact ⟨rfl, rfl, rfl, rfl, rfl, rfl, rfl⟩)
 try simp only [bsimp] at hb17
 rw [readBox_y hM (by rw [hb17]; decide)]
 refine Ok.skip ?_
 refine Ok.seq ?_
 refine Ok.drawn 5 94 [1, 2, 3, 4] (by kernel_rfl) (by kernel_rfl) rfl ?_
 iterate 5 (refine SV ?_)
 refine SOps.nil ?_
 refine TOps.storeL tab_ok rfl rfl rfl (by simp only [kE, kT, kL, kC] <;> rfl) ⟨_, _, by simp only [kE]; rfl⟩ (by first | (simp [V.labelsL, V.labelsLL, V.labels, zz, zf, zy]; done) | (simp [-List.map_map, -List.map_set, -List.map_drop, -List.map_take, -List.map_tail, -List.drop_one, V.labelsL, V.labelsLL, V.labels, zz, zf, zy]; done)) (by simp only [eq_self, V.updL, V.travL, V.travLL, V.trav, updS, updP, and_self, true_and, and_true, false_and, and_false, Nat.reduceEqDiff, Nat.reduceSub, Nat.le_refl, Nat.zero_le, ↓reduceIte, if_true, if_false, kP, zz, zf, zy] <;> rfl) (rfl) (LateOk.cons (i := 1) tab_ok (by rfl) (by rfl) (by (try simp only [List.getElem_toArray, List.getElem_cons_succ, List.getElem_cons_zero]); exact (by simp only [kE, kT, kL, kC] <;> rfl)) (by show nth _ 90 = _; simp only [kE, kT, kL, kC] <;> rfl) (LateOk.cons (i := 2) tab_ok (by rfl) (by rfl) (by (try simp only [List.getElem_toArray, List.getElem_cons_succ, List.getElem_cons_zero]); exact (by simp only [kE, kT, kL, kC] <;> rfl)) (by show nth _ 91 = _; simp only [kE, kT, kL, kC] <;> rfl) (LateOk.cons (i := 3) tab_ok (by rfl) (by rfl) (by (try simp only [List.getElem_toArray, List.getElem_cons_succ, List.getElem_cons_zero]); exact (by simp only [kE, kT, kL, kC] <;> rfl)) (by show nth _ 92 = _; simp only [kE, kT, kL, kC] <;> rfl) (LateOk.cons (i := 4) tab_ok (by rfl) (by rfl) (by (try simp only [List.getElem_toArray, List.getElem_cons_succ, List.getElem_cons_zero]); exact (by simp only [kE, kT, kL, kC] <;> rfl)) (by show nth _ 93 = _; simp only [kE, kT, kL, kC] <;> rfl) LateOk.nil)))) ?_
 refine TOps.evL tab_ok rfl (by simp only [kE, kT, kL, kC] <;> rfl) (by simp only [kP] <;> rfl) (LateOk.cons (i := 1) tab_ok (by rfl) (by rfl) (by (try simp only [List.getElem_toArray, List.getElem_cons_succ, List.getElem_cons_zero]); exact (by simp only [kE, kT, kL, kC] <;> rfl)) (by show nth _ 90 = _; simp only [kE, kT, kL, kC] <;> rfl) (LateOk.cons (i := 2) tab_ok (by rfl) (by rfl) (by (try simp only [List.getElem_toArray, List.getElem_cons_succ, List.getElem_cons_zero]); exact (by simp only [kE, kT, kL, kC] <;> rfl)) (by show nth _ 91 = _; simp only [kE, kT, kL, kC] <;> rfl) (LateOk.cons (i := 3) tab_ok (by rfl) (by rfl) (by (try simp only [List.getElem_toArray, List.getElem_cons_succ, List.getElem_cons_zero]); exact (by simp only [kE, kT, kL, kC] <;> rfl)) (by show nth _ 92 = _; simp only [kE, kT, kL, kC] <;> rfl) (LateOk.cons (i := 4) tab_ok (by rfl) (by rfl) (by (try simp only [List.getElem_toArray, List.getElem_cons_succ, List.getElem_cons_zero]); exact (by simp only [kE, kT, kL, kC] <;> rfl)) (by show nth _ 93 = _; simp only [kE, kT, kL, kC] <;> rfl) LateOk.nil)))) ?_
 refine TOps.evL tab_ok rfl (by simp only [kE, kT, kL, kC] <;> rfl) (by simp only [kP] <;> rfl) (LateOk.cons (i := 1) tab_ok (by rfl) (by rfl) (by (try simp only [List.getElem_toArray, List.getElem_cons_succ, List.getElem_cons_zero]); exact (by simp only [kE, kT, kL, kC] <;> rfl)) (by show nth _ 90 = _; simp only [kE, kT, kL, kC] <;> rfl) (LateOk.cons (i := 2) tab_ok (by rfl) (by rfl) (by (try simp only [List.getElem_toArray, List.getElem_cons_succ, List.getElem_cons_zero]); exact (by simp only [kE, kT, kL, kC] <;> rfl)) (by show nth _ 91 = _; simp only [kE, kT, kL, kC] <;> rfl) (LateOk.cons (i := 3) tab_ok (by rfl) (by rfl) (by (try simp only [List.getElem_toArray, List.getElem_cons_succ, List.getElem_cons_zero]); exact (by simp only [kE, kT, kL, kC] <;> rfl)) (by show nth _ 92 = _; simp only [kE, kT, kL, kC] <;> rfl) (LateOk.cons (i := 4) tab_ok (by rfl) (by rfl) (by (try simp only [List.getElem_toArray, List.getElem_cons_succ, List.getElem_cons_zero]); exact (by simp only [kE, kT, kL, kC] <;> rfl)) (by show nth _ 93 = _; simp only [kE, kT, kL, kC] <;> rfl) LateOk.nil)))) ?_
 refine TOps.nil ?_
 refine Ok.ret ?_
 with_reducible repeat (first | refine thenQ_ret ?_ | refine blockQ_ret ?_)
 refine retQ.end (by show resVs tab _ [.cell 4 140, .tmp 5, .tmp 6] = _; simp only [kE, kT, kL, kC] <;> rfl) rfl ?_
 first | rfl | (simp [V.erase, V.trav, V.travL, V.travLL, packV, zz, zf, zy, zMail, zBox, zStore]; done) | (simp [V.erase, V.trav, V.travL, V.travLL, packV, zz, zf, zy]; exact ⟨rfl, rfl, rfl, rfl, rfl, rfl, rfl⟩)
theorem w_spec_ReadStore (t : Str) (ht : t.length ≤ 4611686018427387904) : Weak Tryz.prog 32 [.str t] (vST (readStoreS t)) := by
 refine Weak.enter tab_ok Tryz.func32 rfl (.inr (by simp [V.labelsL, V.labels, zz, zf, zy])) (t := [.str t, .any, .any, .any, .any, .any, .any, .any, .any, .any, .any, .any, .any, .any, .any, .any, .any, .any, .any, .any, .any, .any, .any, .any, .any, .any, .any, .any, .any, .any, .any, .any, .any, .any, .any, .any, .any, .any, .any, .any, .any, .any, .any, .any, .any, .any, .any, .any, .any, .any, .any, .any, .any, .any, .any, .any, .any, .any, .any, .any, .any, .any, .any, .any, .any, .any, .any, .any, .any, .any, .any, .any, .any, .any, .any, .any, .any, .any, .any, .any, .any, .any, .any, .any, .any, .any, .any, .any, .any, .any, .any, .any, .any, .any, .any]) rfl ?_
 refine OQ ?_
 iterate 2 (refine EV ?_)
 refine ON ?_
 refine OQ ?_
 refine EV ?_
 refine OW cl100 (w_spec_Unsealed t ht) ?_
 iterate 5 (refine EV ?_)
 refine ON ?_
 refine Ok.seq ?_
 have hul : ((unsealed t).getD []).length ≤ 4611686018427387904 := Nat.le_trans unsealed_get_len (by decide)
 have hC : storeC t = ⟨(unsealed t).getD [], 0, !(unsealed t).isSome⟩ := rfl
 generalize (unsealed t).getD [] = u at hul hC ⊢
 generalize (unsealed t).isSome = ub at hC ⊢
 refine Ok.region ?_
 iterate 3 (refine EV ?_)
 refine OkOps.ev tab_ok rfl (by simp [ev1, fillV, kE, kT, kL] <;> first | rfl | exact ⟨rfl, rfl⟩) (by simp only [kP] <;> rfl) ?_
 iterate 2 (refine EV ?_)
 refine ON ?_
 refine Ok.seq ?_
 refine Ok.bump (n' := 4) (by decide) ?_
 refine Ok.region ?_
 refine EV ?_
 refine OkOps.upd rfl rfl (by simp only [kE, kT, kL, kC] <;> rfl) (by simp only [kE, kT, kL, kC] <;> rfl) cl101 (fun h => c_spec_l05Var (⟨u, 0, !ub⟩ : Scan) 1 hul) (by simp only [eq_self, V.updL, V.travL, V.travLL, V.trav, updS, updP, and_self, true_and, and_true, false_and, and_false, Nat.reduceEqDiff, Nat.reduceSub, Nat.le_refl, Nat.zero_le, ↓reduceIte, if_true, if_false, kP, zz, zf, zy] <;> rfl) (rfl) ?_
 refine OkOps.ev tab_ok rfl (by simp [ev1, fillV, kE, kT, kL] <;> first | rfl | exact ⟨rfl, rfl⟩) (by simp only [kP] <;> rfl) ?_
 refine OkOps.nilAgg 27 (cs' := [.int .i64 ((st1 (⟨u, 0, !ub⟩ : Scan)).1 : Int), .int .i64 0, .sl 3 7 0 [], .sl 0 1 0 []]) (by rfl) (by exact ⟨.inl rfl, .inl rfl, le_nil 3 7, le_nil 0 1, trivial⟩) (by simp only [List.set_cons_succ, List.set_cons_zero] <;> rfl) ?_
 refine EV ?_
 refine OE ?_
 refine ON ?_
 refine OQ ?_
 refine EV ?_
 refine OkOps.upd rfl rfl (by simp only [kE, kT, kL, kC] <;> rfl) (by simp only [kE, kT, kL, kC] <;> rfl) cl101 (fun h => c_spec_l05Var (st1 (⟨u, 0, !ub⟩ : Scan)).2 1 (by simp only [scanNum_text, scanShort_text]; exact hul)) (by simp only [eq_self, V.updL, V.travL, V.travLL, V.trav, updS, updP, and_self, true_and, and_true, false_and, and_false, Nat.reduceEqDiff, Nat.reduceSub, Nat.le_refl, Nat.zero_le, ↓reduceIte, if_true, if_false, kP, zz, zf, zy] <;> rfl) (rfl) ?_
 refine EV ?_
 refine OE ?_
 refine ON ?_
 refine OQ ?_
 refine EV ?_
 refine OkOps.upd rfl rfl (by simp only [kE, kT, kL, kC] <;> rfl) (by simp only [kE, kT, kL, kC] <;> rfl) cl101 (fun h => c_spec_l05Var (st2 (⟨u, 0, !ub⟩ : Scan)).2 1 (by simp only [scanNum_text, scanShort_text]; exact hul)) (by simp only [eq_self, V.updL, V.travL, V.travLL, V.trav, updS, updP, and_self, true_and, and_true, false_and, and_false, Nat.reduceEqDiff, Nat.reduceSub, Nat.le_refl, Nat.zero_le, ↓reduceIte, if_true, if_false, kP, zz, zf, zy] <;> rfl) (rfl) ?_
 refine EV ?_
 refine ON ?_
 refine Ok.seq ?_
 refine OQ ?_
 refine EV ?_
 refine ON ?_
 refine Ok.block ?_
 refine Ok.bump (n' := 9) (by omega) ?_
 refine Ok.loopWZ (τ := Nat × Scan × List Box) (fun x => [(6, .ptr 2 0 0 (cScan x.2.1)), (7, .ptr 4 0 0 [.int .i64 ((st1 (⟨u, 0, !ub⟩ : Scan)).1 : Int), .int .i64 ((st2 (⟨u, 0, !ub⟩ : Scan)).1 : Int), .sl 3 7 0 (x.2.2.map cBox), .sl 0 1 0 []]), (9, .int .i64 (x.1 : Int))]) [3, 10, 11, 12, 15, 16, 17, 18, 19, 20, 21, 22, 23, 24, 25, 26, 27, 28, 29, 30, 31, 32, 33, 34, 35, 36, 37, 38, 39, 40, 41, 42, 43, 44, 45, 46, 47, 48, 49, 50, 51, 52, 53, 54, 55, 56, 57, 58, 59, 60, 61, 62, 63, 64, 65, 66, 67, 68, 69, 70, 71] (fun x => by simp only [kover] <;> rfl) (fun x => x.1 ≤ 6 ∧ x.2.1.text = u ∧ x.2.2.length = x.1 ∧ (∀ b ∈ x.2.2, boxOk b = true) ∧ boxesGo (7 - x.1) x.1 (st3 (⟨u, 0, !ub⟩ : Scan)).1 x.2.1 x.2.2 = storeM (⟨u, 0, !ub⟩ : Scan)) (fun x => 7 - x.1) (0, (st3 (⟨u, 0, !ub⟩ : Scan)).2, []) (by omega) (by (repeat (first | exact trivial | refine leC ?_ | refine leK ?_ ?_)) <;> first | (first | exact le_rfl' _ | exact le_eqm rfl) | exact le_rfl' _) (⟨Nat.zero_le _, (by simp only [scanNum_text, scanShort_text]), rfl, (fun m hm => by cases hm), rfl⟩) ?_
 rintro ⟨i, ⟨ct, cp, cb⟩, l⟩ ⟨h1, hct, hll, hok, hgo⟩
 dsimp only at h1 hct hll hok hgo ⊢
 subst ct
 rw [show 7 - i = (7 - (i + 1)) + 1 by omega, boxesGo_s] at hgo
 refine Ok.seq ?_
 refine Ok.seqC [(46, .bool (decide (i < (st3 (⟨u, 0, !ub⟩ : Scan)).1 ∧ i ≤ 5 ∧ cb = false)))] [33, 34, 35, 36, 37, 38, 39, 40, 41, 42, 43, 44, 45] (by simp only [kover] <;> rfl) ?_ ?_
 ·
  refine Ok.region ?_
  iterate 4 (refine EV ?_)
  refine OP (d := 36) (fun hg7_3 => ?_) (fun hg7_3 => ?_)
  ·
   try simp only [bsimp] at hg7_3
   refine OX ?_
   refine OO ?_
   iterate 3 (refine EV ?_)
   refine OP (d := 40) (fun hg7_7 => ?_) (fun hg7_7 => ?_)
   ·
    try simp only [bsimp] at hg7_7
    iterate 4 (refine OX ?_)
    refine OO ?_
    iterate 2 (refine EV ?_)
    refine ON ?_
    refine ⟨rfl, ?_, rfl, rfl⟩
    (repeat (first | exact trivial | refine leC ?_ | refine leK ?_ ?_)) <;> first | (refine .inl (congrArg V.bool ?_); clear hgo hok hll; first | (refine (decide_eq_false (fun q => ?_)).symm; obtain ⟨q1, q2, q3⟩ := q; first | omega | (simp_all; done)) | (rw [Bool.eq_iff_iff]; simp_all <;> omega)) | exact le_rfl' _
   try simp only [bsimp] at hg7_7
   iterate 5 (refine OU ?_)
   refine EV ?_
   refine ON ?_
   refine ⟨rfl, ?_, rfl, rfl⟩
   (repeat (first | exact trivial | refine leC ?_ | refine leK ?_ ?_)) <;> first | (refine .inl (congrArg V.bool ?_); clear hgo hok hll; first | (refine (decide_eq_false (fun q => ?_)).symm; obtain ⟨q1, q2, q3⟩ := q; first | omega | (simp_all; done)) | (rw [Bool.eq_iff_iff]; simp_all <;> omega)) | exact le_rfl' _
  try simp only [bsimp] at hg7_3
  refine OU ?_
  refine OU ?_
  iterate 2 (refine EV ?_)
  iterate 5 (refine OU ?_)
  refine EV ?_
  refine ON ?_
  refine ⟨rfl, ?_, rfl, rfl⟩
  (repeat (first | exact trivial | refine leC ?_ | refine leK ?_ ?_)) <;> first | (refine .inl (congrArg V.bool ?_); clear hgo hok hll; first | (refine (decide_eq_false (fun q => ?_)).symm; obtain ⟨q1, q2, q3⟩ := q; first | omega | (simp_all; done)) | (rw [Bool.eq_iff_iff]; simp_all <;> omega)) | exact le_rfl' _
 refine OC (fun hb7 => ?_) (fun hb7 => ?_)
 ·
  try simp only [bsimp] at hb7
  have hq : i < (st3 (⟨u, 0, !ub⟩ : Scan)).1 ∧ i ≤ 5 ∧ cb = false := hb7
  rw [if_pos hq] at hgo
  refine Ok.skip ?_
  refine Ok.seq ?_
  refine Ok.block ?_
  refine OQ ?_
  iterate 5 (refine EV ?_)
  refine OW cl102 (w_spec_ReadBox u cp hul) ?_
  iterate 5 (refine EV ?_)
  refine OE ?_
  iterate 2 (refine EV ?_)
  refine ON ?_
  refine Ok.seq ?_
  refine OQ ?_
  iterate 2 (refine EV ?_)
  refine ON ?_
  refine OC (fun hb10 => ?_) (fun hb10 => ?_)
  ·
   try simp only [bsimp] at hb10
   have hr : readBoxS u cp = none := by cases hq : readBoxS u cp <;> simp_all
   rw [show (readBoxS u cp).bind _ = none by rw [hr]; rfl] at hgo
   rw [readStore_n (by rw [hC]; exact hgo.symm)]
   refine OQ ?_
   refine OkOps.ev tab_ok rfl (by simp [ev1, fillV, kE, kT, kL] <;> first | rfl | exact ⟨rfl, rfl⟩) (by simp only [kP] <;> rfl) ?_
   refine OE ?_
   refine EV ?_
   refine ON ?_
   refine Ok.ret ?_
   with_reducible repeat (first | refine thenQ_ret ?_ | refine blockQ_ret ?_)
   refine RT ?_
   first | rfl | (simp [V.erase, V.trav, V.travL, V.travLL, packV, zz, zf, zy, zMail, zBox, zStore]; done) | (simp [V.erase, V.trav, V.travL, V.travLL, packV, zz, zf, zy]; exact ⟨rfl, rfl, rfl, rfl⟩)
  try simp only [bsimp] at hb10
  obtain ⟨⟨b, e⟩, hr⟩ : ∃ r, readBoxS u cp = some r := by cases hq : readBoxS u cp <;> simp_all
  have hbo := readBox_ok hr
  rw [show (⟨u, cp, cb⟩ : Scan).text = u from rfl, show (⟨u, cp, cb⟩ : Scan).pos = cp from rfl, hr, Option.bind_some] at hgo
  simp only [hr, Option.getD_some]
  refine Ok.skip ?_
  refine OQ ?_
  iterate 3 (refine EV ?_)
  refine OkOps.ev tab_ok rfl (ev_bs (by simp only [kT] <;> rfl) (by simp only [kT] <;> rfl) (by decide) (by decide) (by simp only [kE, kT, kL, kC, List.map_cons, List.map_nil] <;> rfl) (by simp only [kfe, beq_self_eq_true, Bool.and_true, Bool.true_and, decide_true, Nat.zero_add, Nat.lt_add_one, Nat.reduceLT, Nat.reduceAdd, Nat.zero_lt_succ, if_true, ↓reduceIte] <;> rfl)) (by simp only [kP] <;> rfl) ?_
  refine OkOps.append tab_ok rfl rfl (by simp only [kT] <;> rfl) (by simp only [kT] <;> rfl) (by decide) rfl (by simp only [kE, kT, kL, kC] <;> rfl) (.inl ⟨_, _, by simp only [kE, kT, kL, kC] <;> rfl⟩) (by omega) (by omega) (by simp only [List.length_map, List.length_cons, List.length_nil, hll]; omega) (by simp only [List.length_map, List.length_cons, List.length_nil, hll]; omega) (by simp [V.one]) (by simp only [V.killL, V.killLL, V.travL, V.travLL, V.trav, killS, killP, Nat.reduceEqDiff, ↓reduceIte, reduceCtorEq, if_true, if_false, List.append_nil, List.nil_append, List.cons_append, zz, zf, zy] <;> rfl) (by simp only [V.killL, V.killLL, V.travL, V.travLL, V.trav, killS, killP, Nat.reduceEqDiff, ↓reduceIte, reduceCtorEq, if_true, if_false, List.append_nil, List.nil_append, List.cons_append, zz, zf, zy, kP] <;> rfl) (rfl) ?_
  refine EV ?_
  refine OE ?_
  refine ON ?_
  refine Ok.region ?_
  iterate 4 (refine EV ?_)
  refine OE ?_
  refine ON ?_
  refine Ok.region ?_
  iterate 3 (refine EV ?_)
  refine ON ?_
  refine ⟨(i + 1, ⟨u, e, cb⟩, l ++ [b]), ?_, rfl, ⟨by dsimp only; omega, rfl, by dsimp only; rw [List.length_append, hll]; rfl, by intro q hq; rcases List.mem_append.1 hq with h | h; exact hok q h; (obtain rfl := List.mem_singleton.1 h; exact hbo), hgo⟩, by dsimp only; omega⟩
  simp only [V.renL, V.travL, V.travLL, V.trav, frz, zz, zf, zy, Nat.reduceLeDiff, ↓reduceIte]
  (repeat (first | exact trivial | refine leC ?_ | refine leK ?_ ?_)) <;> first | (first | exact le_rfl' _ | (rw [wrap_add_one (by omega)]; exact le_rfl' _) | (rw [wrap_succ (by omega)]; exact le_rfl' _) | exact le_eqm rfl | (refine le_eqm ?_; show _ = V.ptr 4 0 0 [_, _, .sl 3 7 0 ((l ++ [b]).map cBox), _]; rw [List.map_append]; rfl)) | exact le_rfl' _
 try simp only [bsimp] at hb7
 have hq : ¬ (i < (st3 (⟨u, 0, !ub⟩ : Scan)).1 ∧ i ≤ 5 ∧ cb = false) := hb7
 rw [if_neg hq] at hgo
 have hM : storeM (storeC t) = some (l, (⟨u, cp, cb⟩ : Scan)) := by rw [hC]; exact hgo.symm
 refine Ok.exit ?_
 refine OQ ?_
 refine EV ?_
 refine OkOps.updF (k := 200) rfl rfl (by simp only [kE, kT, kL, kC] <;> rfl) (by simp only [kE, kT, kL, kC] <;> rfl) cl103 (by intro y hy; simp [V.labelsL, V.labels, V.labelsLL, zz, zf, zy, lz] at hy; omega) (Ahd.nil _) (fun h hlt => c_spec_l10Ints (⟨u, cp, cb⟩ : Scan) 20 1 hul (by decide) hlt (by omega)) (by first | rfl | (simp only [Nat.add_zero, Nat.reduceAdd] <;> rfl)) (by simp only [eq_self, V.updL, V.travL, V.travLL, V.trav, updS, updP, and_self, true_and, and_true, false_and, and_false, Nat.reduceEqDiff, Nat.reduceSub, Nat.le_refl, Nat.zero_le, ↓reduceIte, if_true, if_false, kP, zz, zf, zy] <;> rfl) (rfl) ?_
 refine EV ?_
 refine OE ?_
 refine ON ?_
 refine OQ ?_
 refine EV ?_
 refine OkOps.S0 rfl (OpS.weakE rfl (by simp only [kE, kT, kL, kC] <;> rfl) (by simp only [kE, kT, kL, kC, V.eraseL, V.erase, V.travL, V.trav, zz, zf, zy] <;> rfl) cl31 (by simp [V.labels, V.labelsL, V.labelsLL, zz, zf, zy]) (w_spec_StoreText (stV (⟨u, 0, !ub⟩ : Scan) l (intsS 20 (⟨u, cp, cb⟩ : Scan)).1) (stV_sm (by omega) hok))) (by simp only [kP] <;> rfl) ?_
 iterate 5 (refine EV ?_)
 refine ON ?_
 refine Ok.seq ?_
 refine Ok.seqC [(92, .bool (storeBadS t (intsS 20 (⟨u, cp, cb⟩ : Scan)).2.bad (stV (⟨u, 0, !ub⟩ : Scan) l (intsS 20 (⟨u, cp, cb⟩ : Scan)).1)))] [80, 81, 82, 83, 84, 85, 86, 87, 88, 89, 90, 91] (by simp only [kover] <;> rfl) ?_ ?_
 ·
  refine Ok.region ?_
  iterate 5 (refine EV ?_)
  refine OP (d := 84) (fun hg16_4 => ?_) (fun hg16_4 => ?_)
  ·
   try simp only [bsimp] at hg16_4
   refine OU ?_
   refine OU ?_
   iterate 2 (refine EV ?_)
   iterate 3 (refine OU ?_)
   refine EV ?_
   refine ON ?_
   refine ⟨rfl, ?_, rfl, rfl⟩
   (repeat (first | exact trivial | refine leC ?_ | refine leK ?_ ?_)) <;> first | (refine .inl (congrArg V.bool ?_); (first | (simp [storeBadS, *]; done) | (simp [storeBadS, *] <;> omega) | (rw [Bool.eq_iff_iff]; simp [storeBadS, *] <;> omega) | (simp_all [storeBadS]; done))) | exact le_rfl' _
  try simp only [bsimp] at hg16_4
  refine OX ?_
  refine OO ?_
  iterate 3 (refine EV ?_)
  refine OP (d := 88) (fun hg16_8 => ?_) (fun hg16_8 => ?_)
  ·
   try simp only [bsimp] at hg16_8
   iterate 3 (refine OU ?_)
   refine EV ?_
   refine ON ?_
   refine ⟨rfl, ?_, rfl, rfl⟩
   (repeat (first | exact trivial | refine leC ?_ | refine leK ?_ ?_)) <;> first | (refine .inl (congrArg V.bool ?_); (first | (simp [storeBadS, *]; done) | (simp [storeBadS, *] <;> omega) | (rw [Bool.eq_iff_iff]; simp [storeBadS, *] <;> omega) | (simp_all [storeBadS]; done))) | exact le_rfl' _
  try simp only [bsimp] at hg16_8
  refine OX ?_
  refine OX ?_
  refine OO ?_
  iterate 2 (refine EV ?_)
  refine ON ?_
  refine ⟨rfl, ?_, rfl, rfl⟩
  (repeat (first | exact trivial | refine leC ?_ | refine leK ?_ ?_)) <;> first | (refine .inl (congrArg V.bool ?_); (first | (simp [storeBadS, *]; done) | (simp [storeBadS, *] <;> omega) | (rw [Bool.eq_iff_iff]; simp [storeBadS, *] <;> omega) | (simp_all [storeBadS]; done))) | exact le_rfl' _
 refine OC (fun hb16 => ?_) (fun hb16 => ?_)
 ·
  try simp only [bsimp] at hb16
  rw [readStore_b hM (by rw [hC]; exact hb16)]
  refine OQ ?_
  refine OkOps.ev tab_ok rfl (by simp [ev1, fillV, kE, kT, kL] <;> first | rfl | exact ⟨rfl, rfl⟩) (by simp only [kP] <;> rfl) ?_
  refine OE ?_
  refine EV ?_
  refine ON ?_
  refine Ok.ret ?_
  with_reducible repeat (first | refine thenQ_ret ?_ | refine blockQ_ret ?_)
  refine RT ?_
  first | rfl | (simp [V.erase, V.trav, V.travL, V.travLL, packV, zz, zf, zy, zMail, zBox, zStore]; done) | (simp [V.erase, V.trav, V.travL, V.travLL, packV, zz, zf, zy]; exact ⟨rfl, rfl, rfl, rfl⟩)
 try simp only [bsimp] at hb16
 rw [readStore_y hM (by rw [hC, hb16]; decide), hC]
 refine Ok.skip ?_
 refine OQ ?_
 refine EV ?_
 refine OE ?_
 refine EV ?_
 refine ON ?_
 refine Ok.ret ?_
 with_reducible repeat (first | refine thenQ_ret ?_ | refine blockQ_ret ?_)
 refine RT ?_
 first | rfl | (simp [V.erase, V.trav, V.travL, V.travLL, packV, zz, zf, zy, zMail, zBox, zStore]; done) | (simp [V.erase, V.trav, V.travL, V.travLL, packV, zz, zf, zy]; exact ⟨rfl, rfl, rfl, rfl⟩)
end Go.Proofs.YtjhfabimacljhaaGreat.K

/- Plain: syncs that hear. -/
namespace Go.Proofs.YtjhfabimacljhaaGreat.K
open Go Go.RowKit
set_option linter.unusedVariables false
def isB (b : UInt8) (t : Str) : Bool := match t with | x :: _ => decide (x = b) | [] => false
def tellT (t : Str) : Option Nat := match readVar t 1 with | some (n, e) => if e = t.length ∧ 1 ≤ n then some n else none | none => none
def syncDone (o : Sync) : Sync × Str := if o.total = 0 ∨ (o.pieces.length : Int) ≠ o.total then (o, []) else (o, o.pieces.flatten)
def syncText (o : Sync) (t : Str) : Sync × Str :=
  if isB 84 t = true then (match tellT t with | some n => syncDone { o with total := (n : Int) } | none => ({ o with failed := true }, []))
  else if isB 80 t = true then syncDone { o with pieces := o.pieces ++ [t.drop 1] } else ({ o with failed := true }, [])
def syncHears (y : Sync) (p : Packet) : Sync × Str :=
  if (linkHears y.link p).2.2 = true then syncText { y with link := (linkHears y.link p).1 } (linkHears y.link p).2.1 else ({ y with link := (linkHears y.link p).1 }, [])
abbrev vYS (r : Sync × Str) : V := .tup [.agg (cSync r.1), .str r.2]
theorem isB84 {T : Str} (h : 0 < T.length) : decide ((T[0].toNat : Int) = 84) = isB 84 T := by
  cases T with
  | nil => cases h
  | cons x r =>
    show decide ((x.toNat : Int) = 84) = decide (x = 84)
    refine decide_eq_decide.2 ⟨fun e => UInt8.toNat_inj.1 (by show _ = 84; omega), fun e => by rw [e]; rfl⟩
theorem isB80 {T : Str} (h : 0 < T.length) : decide ((T[0].toNat : Int) = 80) = isB 80 T := by
  cases T with
  | nil => cases h
  | cons x r =>
    show decide ((x.toNat : Int) = 80) = decide (x = 80)
    refine decide_eq_decide.2 ⟨fun e => UInt8.toNat_inj.1 (by show _ = 80; omega), fun e => by rw [e]; rfl⟩
theorem isB_cond {b : UInt8} {t : Str} : isB b t = true ↔ ∃ r, t = b :: r := by
  cases t with
  | nil => simp [isB]
  | cons x r => simp [isB]
theorem flat_take {l : List Str} {i : Nat} (h : i < l.length) : (l.take (i + 1)).flatten = (l.take i).flatten ++ l[i] := by
  rw [List.take_succ_eq_append_getElem h, List.flatten_append]; simp
theorem flatT_le {l : List Str} (i : Nat) : (l.take i).flatten.length ≤ l.flatten.length := by
  conv => rhs; rw [← List.take_append_drop i l, List.flatten_append, List.length_append]
  omega
theorem linkHears_text (l : Link) (p : Packet) : (linkHears l p).2.1.length ≤ p.text.length := by
  unfold linkHears
  split
  · simp
  · simp only []
    split <;> simp
theorem syncHears_no {y : Sync} {p : Packet} {L : Link} {T : Str} (h : linkHears y.link p = (L, T, false)) : syncHears y p = ({ y with link := L }, []) := by unfold syncHears; rw [h]; rfl
theorem syncHears_yes {y : Sync} {p : Packet} {L : Link} {T : Str} (h : linkHears y.link p = (L, T, true)) : syncHears y p = syncText { y with link := L } T := by unfold syncHears; rw [h]; rfl
theorem syncText_T {o : Sync} {t : Str} {n : Nat} (h : isB 84 t = true) (ht : tellT t = some n) : syncText o t = syncDone { o with total := (n : Int) } := by unfold syncText; rw [if_pos h, ht]
theorem syncText_F {o : Sync} {t : Str} (h : isB 84 t = true) (ht : tellT t = none) : syncText o t = ({ o with failed := true }, []) := by unfold syncText; rw [if_pos h, ht]
theorem syncText_P {o : Sync} {t : Str} (h : isB 84 t = false) (h2 : isB 80 t = true) : syncText o t = syncDone { o with pieces := o.pieces ++ [t.drop 1] } := by unfold syncText; rw [if_neg (by simp [h]), if_pos h2]
theorem syncText_X {o : Sync} {t : Str} (h : isB 84 t = false) (h2 : isB 80 t = false) : syncText o t = ({ o with failed := true }, []) := by unfold syncText; rw [if_neg (by simp [h]), if_neg (by simp [h2])]
def tellB (t : Str) : Bool := !(readVar t 1).isSome || !decide ((((readVar t 1).getD (0, 0)).2 : Int) = (t.length : Int)) || decide ((((readVar t 1).getD (0, 0)).1 : Int) < 1)
theorem tell_no {t : Str} (h : tellB t = true) : tellT t = none := by
  unfold tellB at h
  unfold tellT
  cases hr : readVar t 1 with
  | none => rfl
  | some r =>
    obtain ⟨n, e⟩ := r
    rw [hr] at h
    simp only [Option.isSome_some, Option.getD_some, Bool.not_true, Bool.false_or, Bool.or_eq_true, Bool.not_eq_true', decide_eq_false_iff_not, decide_eq_true_eq] at h
    show (if e = t.length ∧ 1 ≤ n then some n else none) = none
    rw [if_neg]
    rintro ⟨h1, h2⟩
    rcases h with h | h
    · exact h (by rw [h1])
    · omega
theorem tell_yes {t : Str} (h : tellB t = false) : tellT t = some ((readVar t 1).getD (0, 0)).1 := by
  unfold tellB at h
  unfold tellT
  cases hr : readVar t 1 with
  | none => rw [hr] at h; simp at h
  | some r =>
    obtain ⟨n, e⟩ := r
    rw [hr] at h
    simp only [Option.isSome_some, Option.getD_some, Bool.not_true, Bool.false_or, Bool.or_eq_false_iff, Bool.not_eq_false', decide_eq_true_eq, decide_eq_false_iff_not] at h
    show (if e = t.length ∧ 1 ≤ n then some n else none) = _
    rw [if_pos ⟨by omega, by omega⟩]; rfl
def doneB (o : Sync) : Bool := decide (o.total = 0) || !decide ((o.pieces.length : Int) = o.total)
theorem done_no {o : Sync} (h : doneB o = true) : syncDone o = (o, []) := by
  unfold doneB at h
  simp only [Bool.or_eq_true, Bool.not_eq_true', decide_eq_false_iff_not, decide_eq_true_eq] at h
  exact if_pos h
theorem done_yes {o : Sync} (h : doneB o = false) : syncDone o = (o, o.pieces.flatten) := by
  unfold doneB at h
  simp only [Bool.or_eq_false_iff, Bool.not_eq_false', decide_eq_true_eq, decide_eq_false_iff_not] at h
  exact if_neg (by rintro (h1 | h1); exact h.1 h1; exact h1 h.2)
end Go.Proofs.YtjhfabimacljhaaGreat.K

/- Walks: syncs begun. Printed by w2.py. -/
namespace Go.Proofs.YtjhfabimacljhaaGreat.K
open Go Go.RowKit
set_option linter.unusedVariables false
set_option linter.unusedSimpArgs false
set_option maxHeartbeats 4000000
set_option maxRecDepth 20000
theorem p_impl_put0 (e : Int) {t : Str} (h : pieceN t ≤ 1000) : Pure Tryz.prog 56 [.agg (cLink ⟨e, [], 1, 1⟩), .str (begH t)] (.tup [.agg (cLink (begL e t 0)), .bool true]) := by
  have q := p_impl_LinkPut ⟨e, [], 1, 1⟩ (begH t) (by simp)
  rw [beg_put0 e h] at q; exact q
theorem p_impl_put1 (e : Int) (t : Str) (i : Nat) : Pure Tryz.prog 56 [.agg (cLink (begL e t i)), .str (80 :: pieceT t i)] (.tup [.agg (cLink (begL e t (i + 1))), .bool (decide (i + 1 < 60))]) := by
  have q := p_impl_LinkPut (begL e t i) (80 :: pieceT t i) (Nat.le_trans (begL_way e t i) (by decide))
  rw [beg_put e t i] at q; exact q
theorem p_impl_SyncBegin (s : Store) (h : smStore s) (e : Int) : Pure Tryz.prog 11 [.agg (cStore s), .int .i64 e] (.tup [.agg (cSync (begY s e)), .bool (begOk s)]) := by
 have hn1 := stT_len s
 have hn2 : pieceN (stT s) ≤ 1000 := by unfold pieceN; omega
 have hn3 := varT_len5 (n := pieceN (stT s)) (by omega)
 have hbg : ([84] : Str) ++ varsZ [((pieceN (stT s) : Nat) : Int)] = begH (stT s) := by simp [varsZ, begH]
 refine Pure.of (by simp [V.dat, V.datL, V.datLL, zz, zf, zy]) (OkCall.enter' tab_ok Tryz.func11 rfl (t := [.agg (cStore s), .int .i64 e, .any, .any, .any, .any, .any, .any, .any, .any, .any, .any, .any, .any, .any, .any, .any, .any, .any, .any, .any, .any, .any, .any, .any, .any, .any, .any, .any, .any, .any, .any, .any, .any, .any, .any, .any, .any, .any, .any, .any, .any, .any, .any, .any, .any, .any, .any, .any, .any, .any, .any, .any, .any, .any, .any, .any, .any, .any, .any, .any]) rfl ?_)
 refine OQ ?_
 iterate 3 (refine EV ?_)
 refine ON ?_
 refine OQ ?_
 refine EV ?_
 refine OW cl55 (w_impl_StoreText s h) ?_
 iterate 5 (refine EV ?_)
 refine ON ?_
 refine Ok.seq ?_
 refine Ok.seq ?_
 refine Ok.drop [15, 16, 17, 18, 19] (by simp only [kover] <;> rfl) ?_
 refine Ok.region ?_
 iterate 2 (refine EV ?_)
 refine ON ?_
 refine OC (fun hb2 => ?_) (fun hb2 => ?_)
 ·
  try simp only [bsimp] at hb2
  have hk : begOk s = false := by unfold begOk; rw [show (storeText s).isSome = false by simpa using hb2]; rfl
  rw [begY_no e hk, hk]
  refine Ok.seq ?_
  refine Ok.drop [20, 21] (by simp only [kover] <;> rfl) ?_
  refine Ok.region ?_
  refine OkOps.ev tab_ok rfl (by simp [ev1, fillV, kE, kT, kL] <;> first | rfl | exact ⟨rfl, rfl⟩) (by simp only [kP] <;> rfl) ?_
  refine OkOps.storeN tab_ok rfl rfl (by simp only [kE, kT, kL, kC] <;> rfl) ⟨_, _, by simp only [kE]; rfl⟩ (by first | (simp [V.labelsL, V.labelsLL, V.labels, zz, zf, zy]; done) | (intro h; (simp [V.labelsL, V.labels, V.labelsLL, zz, zf, zy] at h) <;> omega)) (fun W hW hF => by have f0 := far0 hW (fun h => by omega); have p0 := fun i o e => hW.ptr (1) i o e (by omega); simp only [List.map_cons, List.map_nil, hW.int, hW.str, hW.bool, hW.any, hW.tup0, hW.agg, hW.nilV, hF.ptr, f0, p0, kP] <;> rfl) ?_
  refine EV ?_
  refine ON ?_
  refine Ok.ret ?_
  with_reducible repeat (first | refine thenQ_ret ?_ | refine blockQ_ret ?_)
  refine RT ?_
  first | (exact ⟨by simp [V.erase, V.trav, V.travL, V.travLL, packV, zz, zf, zy, zSync, begL], by simp [V.labels, V.labelsL, V.labelsLL, packV, zz, zf, zy, zSync] <;> omega, by simp [V.labels, V.labelsL, V.labelsLL, packV, zz, zf, zy, zSync]⟩)
 try simp only [bsimp] at hb2
 have hs2 : (storeText s).isSome = true := by simpa using hb2
 refine Ok.skip ?_
 refine Ok.seq ?_
 refine Ok.drop [20, 21] (by simp only [kover] <;> rfl) ?_
 refine Ok.region ?_
 refine EV ?_
 refine OW cl40 (w_impl_PiecesOf (stT s) hn1) ?_
 refine EV ?_
 refine ON ?_
 refine Ok.seq ?_
 refine Ok.drop [23, 24] (by simp only [kover] <;> rfl) ?_
 refine Ok.region ?_
 refine EV ?_
 refine OW cl57 (w_impl_LinkNew e) ?_
 refine EV ?_
 refine OkOps.ev tab_ok rfl (by simp only [kE, kT, kL, kC, pieces_len] <;> rfl) (by simp only [kP] <;> rfl) ?_
 refine OkOps.ev tab_ok rfl (ev_bs (by simp only [kT] <;> rfl) (by simp only [kT] <;> rfl) (by decide) (by decide) (by simp only [kE, kT, kL, kC, List.map_cons, List.map_nil] <;> rfl) (by simp only [kfe, beq_self_eq_true, Bool.and_true, Bool.true_and, decide_true, Nat.zero_add, Nat.lt_add_one, Nat.reduceLT, Nat.reduceAdd, Nat.zero_lt_succ, if_true, ↓reduceIte] <;> rfl)) (by simp only [kP] <;> rfl) ?_
 refine OkOps.S0 rfl (OpS.weakE rfl (by simp only [kE, kT, kL, kC] <;> rfl) (by simp only [kE, kT, kL, kC, V.eraseL, V.erase, V.travL, V.trav, zz, zf, zy] <;> rfl) cl58 (by simp [V.labels, V.labelsL, V.labelsLL, zz, zf, zy]) (w_impl_vars [((pieceN (stT s)) : Int)] (by intro z hz; simp only [List.mem_cons, List.not_mem_nil, or_false] at hz; rcases hz with rfl; exact in9 (by omega)) (by simp))) (by simp only [kP] <;> rfl) ?_
 refine OkOps.ev tab_ok rfl (ev_cat (by simp only [kE, kT, kL, kC] <;> rfl) (by simp only [kE, kT, kL, kC] <;> rfl) (by first | (rw [pieces_getE]; simp only [List.length_cons, List.length_nil]; omega) | omega | (simp only [varsZ, Int.toNat_natCast, List.length_append, List.length_nil, List.length_cons] at *; omega) | (simp only [varsZ, varsZ_flat, Int.toNat_natCast, List.length_append, List.length_nil, List.length_cons] at *; omega))) (by simp only [kP] <;> rfl) ?_
 refine OkOps.S' rfl (OpS.pure' rfl (by simp only [kE, kT, kL, kC, hbg] <;> rfl) (by simp only [kE, kT, kL, kC, hbg, V.eraseL, V.erase, V.travL, V.trav, zz, zf, zy] <;> rfl) cl56 (by simp [V.dat, V.datL, V.datLL, zz, zf, zy]) (p_impl_put0 e hn2)) (by simp only [V.cnt, V.cntL, zz, zf, zy, Nat.add_zero, Nat.reduceAdd] <;> rfl) (by simp only [kP, V.tag, V.tagL, V.cnt, V.cntL, zz, zf, zy, Nat.add_zero, Nat.reduceAdd] <;> rfl) ?_
 iterate 4 (refine EV ?_)
 refine OkOps.drop [25, 27, 30, 33] (by simp only [kover] <;> rfl) ?_
 refine OkOps.storeN tab_ok rfl rfl (by simp only [kE, kT, kL, kC] <;> rfl) ⟨_, _, by simp only [kE]; rfl⟩ (by first | (simp [V.labelsL, V.labelsLL, V.labels, zz, zf, zy]; done) | (intro h; (simp [V.labelsL, V.labels, V.labelsLL, zz, zf, zy] at h) <;> omega)) (fun W hW hF => by have f0 := far0 hW (fun h => by omega); have wz := hW.far (.sl 0 1 0 []) (fun y hy h => by (simp [V.labels, V.labelsLL] at hy; omega)); have wy := hW.far (.sl 3 1 0 [[.int .i64 ((pieceN (stT s)) : Int)]]) (fun y hy h => by (simp [V.labels, V.labelsL, V.labelsLL] at hy; omega)); have w3 := hW.far (.sl 4 1 0 ((begL e (stT s) 0).way.map cS)) (fun y hy h => by (simp [V.labels, V.labelsLL, zz, zf, zy] at hy; omega)); have p0 := fun i o e => hW.ptr (1) i o e (by omega);  have p1 := fun i o e => hW.ptr (2) i o e (by omega); simp only [List.map_cons, List.map_nil, hW.int, hW.str, hW.bool, hW.any, hW.tup0, hW.agg, hW.nilV, hF.ptr, f0, w3, wz, wy, p0, p1, kP] <;> rfl) ?_
 refine EV ?_
 refine ON ?_
 refine Ok.seq ?_
 refine Ok.seq ?_
 refine Ok.drop [25, 26, 27, 28, 29, 30, 31, 32, 33, 34, 35] (by simp only [kover] <;> rfl) ?_
 refine Ok.region ?_
 iterate 3 (refine EV ?_)
 refine ON ?_
 refine Ok.block ?_
 refine Ok.loopN (τ := Nat × Nat × Nat) (fun x => [(9, .ptr 5 0 0 [.int .i64 e, .sl (x.2.1 + 1) 1 0 ((begL e (stT s) x.1).way.map cS), .int .i64 1, .int .i64 1]), (10, .bool (decide (x.1 < 60))), (38, .int .i64 (x.1 : Int))]) [12, 13, 14, 39, 40, 41, 42, 43, 44, 45, 46, 47, 48, 49, 50, 51, 52, 53, 54] (fun x => by simp only [kover] <;> rfl) (fun x => x.2.2 + 1) (fun x => x.1 ≤ (pieceN (stT s)) ∧ 3 ≤ x.2.1 ∧ x.2.1 ≠ 4 ∧ x.2.1 < x.2.2 ∧ 5 ≤ x.2.2) (fun x => (pieceN (stT s)) - x.1) (0, 3, 5) (by (repeat (first | exact trivial | refine leC ?_ | refine leK ?_ ?_)) <;> first | (first | exact le_rfl' _ | exact le_eqm rfl) | exact le_rfl' _) (by decide) (⟨Nat.zero_le _, by decide, by decide, by decide, by decide⟩) ?_
 rintro ⟨i, L, k⟩ ⟨h1, h2, h3, h4, h5⟩
 dsimp only at h1 h2 h3 h4 h5 ⊢
 refine OQ ?_
 refine EV ?_
 refine ON ?_
 refine Ok.seq ?_
 refine OC (fun hb7 => ?_) (fun hb7 => ?_)
 ·
  try simp only [bsimp] at hb7
  have hi : i < (pieceN (stT s)) := by rw [pieces_len] at hb7; omega
  have hg := pieces_get (t := stT s) hi
  have hpl := piece_len (stT s) i
  refine Ok.skip ?_
  refine Ok.seq ?_
  refine Ok.block ?_
  refine Ok.seq ?_
  refine Ok.drop [39] (by simp only [kover] <;> rfl) ?_
  refine Ok.region ?_
  refine OkOps.ev tab_ok rfl (ev_idx_map (by simp only [kE, kT, kL, kC] <;> rfl) (by simp only [kE, kT, kL, kC] <;> rfl) (by omega) (by simp only [kE, kT, kL, kC] <;> rfl)) (by simp only [kP] <;> rfl) ?_
  refine OkOps.ev tab_ok rfl (by simp only [kE, kT, kL, kC, pieces_getE] <;> rfl) (by simp only [kP] <;> rfl) ?_
  refine EV ?_
  refine ON ?_
  refine Ok.seq ?_
  refine Ok.drop [40, 41] (by simp only [kover] <;> rfl) ?_
  refine Ok.region ?_
  iterate 2 (refine EV ?_)
  refine OkOps.ev tab_ok rfl (ev_cat (by simp only [kE, kT, kL, kC] <;> rfl) (by simp only [kE, kT, kL, kC] <;> rfl) (by first | (rw [pieces_getE]; simp only [List.length_cons, List.length_nil]; omega) | omega | (simp only [varsZ, Int.toNat_natCast, List.length_append, List.length_nil, List.length_cons] at *; omega) | (simp only [varsZ, varsZ_flat, Int.toNat_natCast, List.length_append, List.length_nil, List.length_cons] at *; omega))) (by simp only [kP] <;> rfl) ?_
  refine OkOps.S' rfl (OpS.pure' rfl (by simp only [kE, kT, kL, kC, List.cons_append, List.nil_append, pieces_getE] <;> rfl) (by simp only [kE, kT, kL, kC, List.cons_append, List.nil_append, pieces_getE, V.eraseL, V.erase, V.travL, V.trav, zz, zf, zy] <;> rfl) cl56 (by simp [V.dat, V.datL, V.datLL, zz, zf, zy]) (p_impl_put1 e (stT s) i)) (by simp only [V.cnt, V.cntL, zz, zf, zy, Nat.add_zero, Nat.reduceAdd] <;> rfl) (by simp only [kP, V.tag, V.tagL, V.cnt, V.cntL, zz, zf, zy, Nat.add_zero, Nat.reduceAdd] <;> rfl) ?_
  iterate 4 (refine EV ?_)
  refine OkOps.drop [42, 46] (by simp only [kover] <;> rfl) ?_
  refine OkOps.storeN tab_ok rfl rfl (by simp only [kE, kT, kL, kC] <;> rfl) ⟨_, _, by simp only [kE]; rfl⟩ (by first | (simp [V.labelsL, V.labelsLL, V.labels, zz, zf, zy]; done) | (intro h; (simp [V.labelsL, V.labels, V.labelsLL, zz, zf, zy] at h) <;> omega)) (fun W hW hF => by have f0 := far0 hW (fun h => by omega); have w3 := hW.far (.sl (L + 1) 1 0 ((begL e (stT s) i).way.map cS)) (fun y hy h => by (simp [V.labels, V.labelsLL, zz, zf, zy] at hy; omega)); have w4 := hW.far (.sl (k + 1) 1 0 ((begL e (stT s) (i + 1)).way.map cS)) (fun y hy h => by (simp [V.labels, V.labelsLL, zz, zf, zy] at hy; omega)); have p0 := fun i o e => hW.ptr (1) i o e (by omega);  have p1 := fun i o e => hW.ptr (2) i o e (by omega);  have p2 := fun i o e => hW.ptr (5) i o e (by omega); simp only [List.map_cons, List.map_nil, hW.int, hW.str, hW.bool, hW.any, hW.tup0, hW.agg, hW.nilV, hF.ptr, f0, w3, w4, p0, p1, p2, kP] <;> rfl) ?_
  refine EV ?_
  refine ON ?_
  refine Ok.seq ?_
  refine Ok.drop [42, 43, 44, 45, 46, 47, 48] (by simp only [kover] <;> rfl) ?_
  refine Ok.region ?_
  refine EV ?_
  refine OkOps.storeN tab_ok rfl rfl (by simp only [kE, kT, kL, kC] <;> rfl) ⟨_, _, by simp only [kE]; rfl⟩ (by first | (simp [V.labelsL, V.labelsLL, V.labels, zz, zf, zy]; done) | (intro h; (simp [V.labelsL, V.labels, V.labelsLL, zz, zf, zy] at h) <;> omega)) (fun W hW hF => by have f0 := far0 hW (fun h => by omega); have w4 := hW.far (.sl (k + 1) 1 0 ((begL e (stT s) (i + 1)).way.map cS)) (fun y hy h => by (simp [V.labels, V.labelsLL, zz, zf, zy] at hy; omega)); have p0 := fun i o e => hW.ptr (1) i o e (by omega);  have p1 := fun i o e => hW.ptr (2) i o e (by omega);  have p3 := fun i o e => hW.ptr (k + 1 + 1) i o e (by omega); simp only [List.map_cons, List.map_nil, hW.int, hW.str, hW.bool, hW.any, hW.tup0, hW.agg, hW.nilV, hF.ptr, f0, w4, p0, p1, p3, kP] <;> rfl) ?_
  refine ON ?_
  refine Ok.drop [49] (by simp only [kover] <;> rfl) ?_
  refine Ok.region ?_
  iterate 2 (refine EV ?_)
  refine OP (d := 51) (fun hg11_1 => ?_) (fun hg11_1 => ?_)
  ·
   try simp only [bsimp] at hg11_1
   refine OO ?_
   iterate 3 (refine EV ?_)
   refine ON ?_
   refine Ok.drop [50, 51, 52, 53] (by simp only [kover] <;> rfl) ?_
   refine Ok.region ?_
   iterate 2 (refine EV ?_)
   refine ON ?_
   refine ⟨(i + 1, k, k + 2), ?_, rfl, (by dsimp only; omega), ⟨hi, by dsimp only; omega, by dsimp only; omega, by dsimp only; omega, by dsimp only; omega⟩, by dsimp only; omega⟩
   (repeat (first | exact trivial | refine leC ?_ | refine leK ?_ ?_)) <;> first | (first | exact le_rfl' _ | (rw [wrap_add_one (by omega)]; exact le_rfl' _) | (show V.le (V.bool false) (V.bool (decide (i + 1 < 60))); rw [show decide (i + 1 < 60) = false from decide_eq_false (by (try simp only [decide_eq_false_iff_not] at hg11_1); omega)]; exact le_rfl' _)) | exact le_rfl' _
  try simp only [bsimp] at hg11_1
  refine OU ?_
  iterate 2 (refine EV ?_)
  refine ON ?_
  refine Ok.drop [50, 51, 52, 53] (by simp only [kover] <;> rfl) ?_
  refine Ok.region ?_
  iterate 2 (refine EV ?_)
  refine ON ?_
  refine ⟨(i + 1, k, k + 2), ?_, rfl, (by dsimp only; omega), ⟨hi, by dsimp only; omega, by dsimp only; omega, by dsimp only; omega, by dsimp only; omega⟩, by dsimp only; omega⟩
  (repeat (first | exact trivial | refine leC ?_ | refine leK ?_ ?_)) <;> first | (first | exact le_rfl' _ | (rw [wrap_add_one (by omega)]; exact le_rfl' _) | (show V.le (V.bool false) (V.bool (decide (i + 1 < 60))); rw [show decide (i + 1 < 60) = false from decide_eq_false (by (try simp only [decide_eq_false_iff_not] at hg11_1); omega)]; exact le_rfl' _)) | exact le_rfl' _
 try simp only [bsimp] at hb7
 obtain rfl : i = (pieceN (stT s)) := by rw [pieces_len] at hb7; omega
 refine Ok.exit ?_
 refine Ok.seq ?_
 refine Ok.seq ?_
 refine Ok.drop [39] (by simp only [kover] <;> rfl) ?_
 refine Ok.region ?_
 iterate 2 (refine EV ?_)
 refine ON ?_
 refine OC (fun hb13 => ?_) (fun hb13 => ?_)
 ·
  try simp only [bsimp] at hb13
  have hk : begOk s = false := by unfold begOk; rw [hs2]; simpa using hb13
  rw [begY_no e hk, hk]
  refine Ok.seq ?_
  refine Ok.drop [55, 56] (by simp only [kover] <;> rfl) ?_
  refine Ok.region ?_
  refine OkOps.ev tab_ok rfl (by simp [ev1, fillV, kE, kT, kL] <;> first | rfl | exact ⟨rfl, rfl⟩) (by simp only [kP] <;> rfl) ?_
  refine OkOps.storeN tab_ok rfl rfl (by simp only [kE, kT, kL, kC] <;> rfl) ⟨_, _, by simp only [kE]; rfl⟩ (by first | (simp [V.labelsL, V.labelsLL, V.labels, zz, zf, zy]; done) | (intro h; (simp [V.labelsL, V.labels, V.labelsLL, zz, zf, zy] at h) <;> omega)) (fun W hW hF => by have f0 := far0 hW (fun h => by omega); have w4 := hW.far (.sl (L + 1) 1 0 ((begL e (stT s) (pieceN (stT s))).way.map cS)) (fun y hy h => by (simp [V.labels, V.labelsLL, zz, zf, zy] at hy; omega)); have p0 := fun i o e => hW.ptr (1) i o e (by omega);  have p2 := fun i o e => hW.ptr (5) i o e (by omega); simp only [List.map_cons, List.map_nil, hW.int, hW.str, hW.bool, hW.any, hW.tup0, hW.agg, hW.nilV, hF.ptr, f0, w4, p0, p2, kP] <;> rfl) ?_
  refine EV ?_
  refine ON ?_
  refine Ok.ret ?_
  with_reducible repeat (first | refine thenQ_ret ?_ | refine blockQ_ret ?_)
  refine RT ?_
  first | (exact ⟨by simp [V.erase, V.trav, V.travL, V.travLL, packV, zz, zf, zy, zSync, begL], by simp [V.labels, V.labelsL, V.labelsLL, packV, zz, zf, zy, zSync] <;> omega, by simp [V.labels, V.labelsL, V.labelsLL, packV, zz, zf, zy, zSync]⟩)
 try simp only [bsimp] at hb13
 have hk : begOk s = true := by unfold begOk; rw [hs2]; simpa using hb13
 rw [begY_yes e hk, hk]
 refine Ok.skip ?_
 refine Ok.seq ?_
 refine Ok.drop [55, 56] (by simp only [kover] <;> rfl) ?_
 refine Ok.region ?_
 iterate 2 (refine EV ?_)
 refine OkOps.ev tab_ok rfl (by simp [ev1, fillV, kE, kT, kL] <;> first | rfl | exact ⟨rfl, rfl⟩) (by simp only [kP] <;> rfl) ?_
 refine OkOps.storeN tab_ok rfl rfl (by simp only [kE, kT, kL, kC] <;> rfl) ⟨_, _, by simp only [kE]; rfl⟩ (by first | (simp [V.labelsL, V.labelsLL, V.labels, zz, zf, zy]; done) | (intro h; (simp [V.labelsL, V.labels, V.labelsLL, zz, zf, zy] at h) <;> omega)) (fun W hW hF => by have f0 := far0 hW (fun h => by omega); have w4 := hW.far (.sl (L + 1) 1 0 ((begL e (stT s) (pieceN (stT s))).way.map cS)) (fun y hy h => by (simp [V.labels, V.labelsLL, zz, zf, zy] at hy; omega)); have p0 := fun i o e => hW.ptr (1) i o e (by omega);  have p2 := fun i o e => hW.ptr (5) i o e (by omega); simp only [List.map_cons, List.map_nil, hW.int, hW.str, hW.bool, hW.any, hW.tup0, hW.agg, hW.nilV, hF.ptr, f0, w4, p0, p2, kP] <;> rfl) ?_
 refine EV ?_
 refine ON ?_
 refine Ok.ret ?_
 with_reducible repeat (first | refine thenQ_ret ?_ | refine blockQ_ret ?_)
 refine RT ?_
 first | (exact ⟨by simp [V.erase, V.trav, V.travL, V.travLL, packV, zz, zf, zy, zSync, begL], by simp [V.labels, V.labelsL, V.labelsLL, packV, zz, zf, zy, zSync] <;> omega, by simp [V.labels, V.labelsL, V.labelsLL, packV, zz, zf, zy, zSync]⟩)
end Go.Proofs.YtjhfabimacljhaaGreat.K
