/- Steps of the chain of a region that draws its order. -/
import Derived.Test.YtliiphpbfambcaaGreatDoorG5
import Derived.Test.YtliiphpbfambcaaGreatDoorG4
import Derived.Test.YtliiphpbfambcaaGreatDoorG1
import Derived.Lib.Split
import Derived.Test.YtliiphpbfambcaaGreatDoorG2
namespace Go.Proofs.YtliiphpbfambcaaGreatDoor.K
open Go Go.RowKit
set_option linter.unusedVariables false
set_option linter.unusedSimpArgs false
section
variable {P : Program} {ti : Tab} {n n' : Nat} {t t' h h' : List V} {Q : Exit → List V → List V → Nat → Prop} {ops : Array Oper} {o : Oper} {i : Nat} {la hs : List Nat} {rest : List Stg}
theorem OpT.updF {fx : Operand} {args : Array Operand} {ts : Array TypeId} {f : FuncId} {caps ags : List V} {L j k : Nat} {e' : List V} {x : V} (ho : o.op = .call ⟨.value fx, args, ts⟩) (hf : opnd t fx = .fn f caps) (ha : args.toList.map (opnd t) ++ caps = ags)
    (hcl : Callable P f) (h1 : Ahd n t) (h2 : Ahd n h) (hc : ∀ h, Ahd n h → OkCall P f ags h n fun r h1 n1 => r = x ∧ h1 = V.updL L j e' h ∧ n1 = n + k) : OpT P ops o t h n (putV (V.updL L j e' t) o.dst x) (V.updL L j e' h) (n + k) := by
  intro f' hf' hd
  have e1 : opnd (maskP f' 0 t) fx = opnd t fx := opnd_maskP (by rw [ho]; simp [Op.operands, Call.operands]) hf'
  have e2 : args.toList.map (opnd (maskP f' 0 t)) = args.toList.map (opnd t) := List.map_congr_left fun x hx => opnd_maskP (by rw [ho]; simp only [Op.operands, Call.operands, Array.toList_append, List.mem_append]; exact .inr hx) hf'
  have e3 : maskP f' 0 (V.updL L j e' t) = V.updL L j e' (maskP f' 0 t) := by
    unfold V.updL
    rw [travL_eq, travL_eq]
    exact maskP_map f' _ rfl t 0
  rw [← maskP_put hd, e3]
  refine OpOk.call ho (e1.trans hf) hcl ?_ ?_
  · unfold V.updL; rw [travL_len]
  · rw [e2, ha]
    refine (hc (maskP f' 0 t ++ h) ((maskP_ahd h1).app h2)).mono ?_
    rintro r h1 n1 ⟨rfl, rfl, rfl⟩
    exact ⟨rfl, by unfold V.updL; rw [travL_eq, travL_eq, travL_eq, List.map_append], rfl⟩
theorem Pend.updF {fx : Operand} {args : Array Operand} {ts : Array TypeId} {f : FuncId} {caps ags : List V} {L j k : Nat} {e' : List V} {x : V} (hb : ops[i]? = some o) (hg : o.guard = none) (ho : o.op = .call ⟨.value fx, args, ts⟩) (hf : opnd t fx = .fn f caps) (ha : args.toList.map (opnd t) ++ caps = ags)
    (hcl : Callable P f) (h1 : Ahd n t) (h2 : Ahd n h) (hc : ∀ h, Ahd n h → OkCall P f ags h n fun r h1 n1 => r = x ∧ h1 = V.updL L j e' h ∧ n1 = n + k) (hn : n + k = n') (ht : putV (V.updL L j e' t) o.dst x = t') (hh : V.updL L j e' h = h')
    (hk : SOps P ops (ixs ops hs) t' n' fun t2 n2 => LateA P ops t' h' n' t2 la ∧ Pend P ops Q rest t2 h' n2) : Pend P ops Q ((i, la, hs) :: rest) t h n := by
  refine Pend.step hb hg ?_ (ht ▸ hh ▸ hn ▸ OpT.updF ho hf ha hcl h1 h2 hc) hk
  rw [← ht]
  have : (V.updL L j e' t).length = t.length := by unfold V.updL; rw [travL_len]
  cases o.dst <;> simp [putV, this]
theorem Pend.store {T : TypeId} {p x : Operand} {L j : Nat} {e' : List V} (hti : TabOk P ti) (hb : ops[i]? = some o) (hg : o.guard = none) (hdst : o.dst = none) (ho : o.op = .store T p x) (hs' : Go.Proofs.YtliiphpbfambcaaGreatDoor.K.storeE (ti T) (opnd t p) (opnd t x) = some (L, j, e')) (hc : ∃ y l, cellsV (opnd t x) = y :: l) (hfree : L ∉ V.labelsL e')
    (ht : V.updL L j e' t = t') (hh : V.updL L j e' h = h') (hk : SOps P ops (ixs ops hs) t' n fun t2 n2 => LateA P ops t' h' n t2 la ∧ Pend P ops Q rest t2 h' n2) : Pend P ops Q ((i, la, hs) :: rest) t h n :=
  Pend.step hb hg (by rw [← ht]; unfold V.updL; rw [travL_len]) (ht ▸ hh ▸ OpT.store hti hdst ho hs' hc hfree) hk
end
end Go.Proofs.YtliiphpbfambcaaGreatDoor.K

/- Names given up, for callers' values too. -/
namespace Go.Proofs.YtliiphpbfambcaaGreatDoor.K
open Go Go.RowKit
set_option linter.unusedVariables false
theorem frz_lt {n L : Nat} (h : L < n) : frz n L = L := if_neg (by omega)
theorem renLL_set {g : Nat → Nat} (e : List V) : ∀ (es : List (List V)) (k : Nat), V.renLL g (es.set k e) = (V.renLL g es).set k (V.renL g e)
  | [], _ => rfl
  | x :: es, 0 => rfl
  | x :: es, k + 1 => by show V.renL g x :: V.renLL g (es.set k e) = V.renL g x :: (V.renLL g es).set k (V.renL g e); rw [renLL_set e es k]
mutual
theorem ru1 {n L j : Nat} {e : List V} : ∀ x : V, (∀ y ∈ V.labels x, y < n) → V.ren (frz n) (V.upd L j e x) = V.upd L j (V.renL (frz n) e) x
  | .sl M sz off es, h => by
    have hM : M < n := h M (by simp [V.labels])
    have ih := ru3 (n := n) (L := L) (j := j) (e := e) es (fun y hy => h y (by simp [V.labels, hy]))
    show V.ren (frz n) (updS L j e M sz off (V.updLL L j e es)) = updS L j (V.renL (frz n) e) M sz off (V.updLL L j (V.renL (frz n) e) es)
    unfold updS
    split
    · show V.sl (frz n M) sz off (V.renLL (frz n) ((V.updLL L j e es).set (j - off) e)) = _
      rw [frz_lt hM, renLL_set, ih]
    · show V.sl (frz n M) sz off (V.renLL (frz n) (V.updLL L j e es)) = _
      rw [frz_lt hM, ih]
  | .ptr M i o c, h => by
    have hM : M < n := h M (by simp [V.labels])
    have ih := ru2 (n := n) (L := L) (j := j) (e := e) c (fun y hy => h y (by simp [V.labels, hy]))
    show V.ren (frz n) (updP L j e M i o (V.updL L j e c)) = updP L j (V.renL (frz n) e) M i o (V.updL L j (V.renL (frz n) e) c)
    unfold updP
    split
    · show V.ptr (frz n M) i o (V.renL (frz n) e) = _
      rw [frz_lt hM]
    · show V.ptr (frz n M) i o (V.renL (frz n) (V.updL L j e c)) = _
      rw [frz_lt hM, ih]
  | .fn f c, h => by
    show V.fn f (V.renL _ (V.updL L j e c)) = V.fn f _
    rw [ru2 c (fun y hy => h y (by simpa [V.labels] using hy))]; rfl
  | .agg c, h => by
    show V.agg (V.renL _ (V.updL L j e c)) = V.agg _
    rw [ru2 c (fun y hy => h y (by simpa [V.labels] using hy))]; rfl
  | .tup c, h => by
    show V.tup (V.renL _ (V.updL L j e c)) = V.tup _
    rw [ru2 c (fun y hy => h y (by simpa [V.labels] using hy))]; rfl
  | .any, _ => rfl
  | .bool _, _ => rfl
  | .int _ _, _ => rfl
  | .str _, _ => rfl
  | .nil _, _ => rfl
  | .nilP, _ => rfl
theorem ru2 {n L j : Nat} {e : List V} : ∀ l : List V, (∀ y ∈ V.labelsL l, y < n) → V.renL (frz n) (V.updL L j e l) = V.updL L j (V.renL (frz n) e) l
  | [], _ => rfl
  | x :: l, h => by
    show V.ren _ (V.upd L j e x) :: V.renL _ (V.updL L j e l) = _ :: _
    rw [ru1 x (fun y hy => h y (by simp [V.labelsL, hy])), ru2 l (fun y hy => h y (by simp [V.labelsL, hy]))]; rfl
theorem ru3 {n L j : Nat} {e : List V} : ∀ l : List (List V), (∀ y ∈ V.labelsLL l, y < n) → V.renLL (frz n) (V.updLL L j e l) = V.updLL L j (V.renL (frz n) e) l
  | [], _ => rfl
  | x :: l, h => by
    show V.renL _ (V.updL L j e x) :: V.renLL _ (V.updLL L j e l) = _ :: _
    rw [ru2 x (fun y hy => h y (by simp [V.labelsLL, hy])), ru3 l (fun y hy => h y (by simp [V.labelsLL, hy]))]; rfl
end
theorem Ahd.ren_upd {n L j : Nat} {e h : List V} (hh : Ahd n h) : V.renL (frz n) (V.updL L j e h) = V.updL L j (V.renL (frz n) e) h := ru2 h hh
theorem Ahd.ren {n : Nat} {h : List V} (hh : Ahd n h) : V.renL (frz n) h = h := by
  have h1 := Ahd.ren_upd (L := n) (j := 0) (e := []) hh
  rw [Ahd.updL hh] at h1
  rw [h1]
  exact Ahd.updL hh
section
variable {P : Program} {ti : Tab} {n n' : Nat} {t t' h h' : List V} {Q : Exit → List V → List V → Nat → Prop} {ops : Array Oper} {o : Oper} {l : List Oper} {late : List Nat}
end
section
variable {P : Program} {ti : Tab} {n n' : Nat} {t t' h h' : List V} {Q : Exit → List V → List V → Nat → Prop} {ops : Array Oper} {o : Oper} {i : Nat} {la hs : List Nat} {rest : List Stg}
end
end Go.Proofs.YtliiphpbfambcaaGreatDoor.K

/- Calls of which it is told only that what they give is one of these. -/
namespace Go.Proofs.YtliiphpbfambcaaGreatDoor.K
open Go Go.RowKit
set_option linter.unusedVariables false
set_option linter.unusedSimpArgs false
structure WeakX (P : Program) (f : FuncId) (args : List V) (τ : Type) (X : τ → V) (G : τ → Prop) : Prop where
  go : ∀ base σ w vs, (∀ k, base.bad k → k < w.heap.size) → σ 0 = none → (∀ L b o s, σ L = some (b, o, s) → b < w.heap.size) → Gw w → Ms base σ w args vs → Calls P f vs.toArray w fun e w' => ∃ y v, e = .returned v ∧ G y ∧ M base σ w' (X y) v ∧ Below w.heap.size w w'
section
variable {P : Program} {t h : List V} {n n' : Nat} {Q : Exit → List V → List V → Nat → Prop} {ops : Array Oper} {o : Oper} {l : List Oper} {τ : Type} {X : τ → V} {G : τ → Prop} {E : τ → List V}
theorem WeakX.of {f : FuncId} {args : List V} (hz : ∀ L ∈ V.labelsL args, L = 0) (hc : OkCall P f args [] 1 fun x _ _ => ∃ y, G y ∧ V.erase x = X y) : WeakX P f args τ X G := by
  refine ⟨fun base σ w vs hbad h0 hσ hgw hargs => ?_⟩
  let base1 : Base := ⟨w.heap.size, fun k => base.bad k ∨ ∃ L b o s, σ L = some (b, o, s) ∧ b = k, fun k hk => by
    rcases hk with hk | ⟨L, b, o, s, hs, rfl⟩
    · exact hbad k hk
    · exact hσ L b o s hs⟩
  have inv : Inv base1 noSig w 1 := ⟨Nat.le_refl _, Nat.le_refl _, rfl, fun _ _ => rfl, fun _ _ _ _ h => by simp [noSig] at h, fun _ _ _ _ _ _ _ h => by simp [noSig] at h⟩
  have hargs1 : Ms base1 noSig w args vs := by
    refine ⟨hargs.1, fun i x u hx hu => (hargs.2 i x u hx hu).as fun L hL sz pos room ad hat => ?_⟩
    have hL0 := hz L (labels_in1 hx hL)
    rcases hat with ⟨_, hold⟩ | ⟨b, o, _, _, _, hs, _⟩
    · refine .inl ⟨hL0, hold.1, fun _ _ _ _ h => by simp [noSig] at h, ?_⟩
      rintro (hk | ⟨L, b, o, s, hs, hb⟩)
      · exact hold.2.2 hk
      · exact hold.2.1 L b o s hs hb
    · rw [hL0, h0] at hs; cases hs
  refine (hc base1 w [] noSig w vs inv hargs1 ⟨rfl, by simp⟩ (Below.refl _ _) (hgw.k (Nat.le_refl _))).mono ?_
  rintro e w' ⟨x, h', n', σ', v, rfl, ⟨y, hy, hxy⟩, hm, _, inv', bel⟩
  refine ⟨y, v, rfl, hy, ?_, bel⟩
  rw [← hxy]
  refine hm.erase fun L _ sz pos room ad hat => ?_
  rcases hat with ⟨_, hold⟩ | ⟨b, o, cur, e, fr, hs, rfl, hh, _⟩
  · exact ⟨hold.1, fun L b o s hs hb => hold.2.2 (.inr ⟨L, b, o, s, hs, hb⟩), fun hk => hold.2.2 (.inl hk)⟩
  · have hge := (inv'.own L b o sz hs).1
    have hge' : w.heap.size ≤ b := hge
    refine ⟨(inv'.own L b o sz hs).2, fun L2 b2 o2 s2 hs2 hb => ?_, fun hk => ?_⟩
    · have := hσ L2 b2 o2 s2 hs2
      have hb' : b2 = b := hb
      omega
    · have : b < w.heap.size := hbad b hk
      omega
theorem WeakX.enter {ti : Tab} (hti : TabOk P ti) {f : FuncId} {fn : Func} {c : Code} {args : List V} (hf : P.funcs[f]? = some fn) (hb : fn.body = some c) (hz : V.labelsL args = [] ∨ ∀ L ∈ V.labelsL args, L = 0)
    (ht : args ++ List.replicate (fn.ntmps - args.length) .any = t) (hk : Ok P c t [] 1 (retQ ti fn fun x _ _ => ∃ y, G y ∧ V.erase x = X y)) : WeakX P f args τ X G :=
  WeakX.of (hz.elim (fun h => by rw [h]; simp) id) (OkCall.enter hti hf hb (ht ▸ hk))
theorem callee_run {fx : Operand} {args : Array Operand} {ts : Array TypeId} {f : FuncId} {caps : List V} (ho : o.op = .call ⟨.value fx, args, ts⟩) (hf : opnd t fx = .fn f caps) (hcl : Callable P f) {base : Base} {σ : Sig} {a : Act} {w : World} (hts : Ms base σ w t a.tmps.toList) :
    ∃ cs, Ms base σ w (args.toList.map (opnd t) ++ caps) (args.toList.map a.eval ++ cs) ∧ (execOp a.eval o).run P w = .ok (.enter f (args.toList.map a.eval ++ cs).toArray) w := by
  obtain ⟨fn, hfn, hbody, hname⟩ := hcl
  have hm := opnd_M hts fx
  rw [hf] at hm
  obtain ⟨cs, hcs, hfv⟩ : ∃ cs : List Value, Ms base σ w caps cs ∧ a.eval fx = .func (.func f) #[] cs.toArray := by
    generalize a.eval fx = fv at hm
    cases hm with
    | fn _ _ vs h1 h6 => exact ⟨vs, ⟨h1, h6⟩, rfl⟩
  have hargs : Ms base σ w (args.toList.map (opnd t)) (args.toList.map a.eval) := by
    refine ⟨by simp, fun i x u hx hu => ?_⟩
    rw [List.getElem?_map] at hx hu
    obtain ⟨q, hq, rfl⟩ := Option.map_eq_some_iff.1 hx
    rw [hq] at hu
    obtain rfl := Option.some.inj hu
    exact opnd_M hts q
  refine ⟨cs, hargs.append hcs, ?_⟩
  have hargs' : (#[] ++ args.map a.eval ++ cs.toArray : Array Value) = (args.toList.map a.eval ++ cs).toArray := by
    apply Array.ext'
    simp
  simp only [execOp, ho, resolve, hfv, Deferred.ofValue, Sem.run_bind, Sem.run_pure, Result.andThen_ok, invoke, callFunc, run_program, hfn, hname, hbody, Bool.false_eq_true, if_false, hargs']
theorem Ok.join {x y : Code} {F : τ → List V} (W : τ → List (Nat × V)) (dead : List Nat) (hF : ∀ z, overW (W z) (overD dead t) = F z) (H : τ → List V) (N : τ → Nat) (p : τ → Prop)
    (hx : Ok P x t h n (thenQ (fun t' h' n' => ∃ z, leL t' (F z) ∧ h' = H z ∧ n' ≤ N z ∧ p z) Q)) (hy : ∀ z, p z → Ok P y (F z) (H z) (N z) Q) : Ok P (.seq x y) t h n Q := by
  refine Ok.seq (hx.mono ?_)
  intro e t1 h1 n1 hq
  cases e with
  | normal =>
    obtain ⟨z, h2, rfl, h4, h5⟩ := hq
    exact Ok.bump h4 (Ok.forget (leL_spec h2).1 (leL_spec h2).2 (hy z h5))
  | exit id => exact hq
  | goto l => exact hq
  | ret => exact hq
  | panic ch => exact hq
  | outgrown => exact hq
theorem OkOps.weakX {fx : Operand} {args : Array Operand} {ts : Array TypeId} {f : FuncId} {caps ags : List V} {T' : τ → List V} (hg : o.guard = none) (ho : o.op = .call ⟨.value fx, args, ts⟩) (hf : opnd t fx = .fn f caps) (ha : args.toList.map (opnd t) ++ caps = ags) (hcl : Callable P f)
    (hp : WeakX P f ags τ X G) (ht : ∀ y, putV t o.dst (X y) = T' y) (hk : ∀ y, G y → OkOps P ops l (T' y) h n Q) : OkOps P ops (o :: l) t h n Q := by
  subst ha
  intro base w0 hv σ a w gd
  unfold wpList
  rw [if_pos (wanted_none hg _)]
  refine .inl ?_
  obtain ⟨cs, hargs, hrun⟩ := callee_run ho hf hcl gd.ts
  have hcall := hp.go base σ w _ (fun k hk => Nat.lt_of_lt_of_le (base.lt k hk) gd.inv.bs) gd.inv.zero (fun L b o s h => (gd.inv.own L b o s h).2) (gd.gk.at gd.bel) hargs
  unfold Oper.wp
  rw [hrun, Oper.upon_enter]
  refine hcall.mono ?_
  rintro e w' ⟨y, v, rfl, hy, hm2, bel⟩
  have hn : New base σ w n 0 (X y) v w' := ⟨σ, bel, fun _ _ => rfl, fun L _ _ _ h1 h2 => by omega, fun _ _ _ _ _ _ _ h1 h2 => by omega, hm2⟩
  obtain ⟨σ', hk2, h1, h2, h3, h4, bel2⟩ := hn.keeps (fun L b o s h => (gd.inv.own L b o s h).2) (fun L h1 h2 => by omega)
  have hσ : σ' = σ := funext fun L => h1 L (by omega)
  subst hσ
  refine hk y hy base w0 hv σ' _ w' ⟨ht y ▸ (gd.ts.keep hk2).put _ h4, gd.hs.keep hk2, by cases o.dst <;> exact gd.dfr, Below.after gd.bel bel gd.inv.bs, ⟨Nat.le_trans gd.inv.bs bel.size, gd.inv.pos, gd.inv.zero, gd.inv.fresh, fun L b o s hL => ?_, gd.inv.inj⟩, gd.gk⟩
  have := gd.inv.own L b o s hL
  have := bel.size
  omega
end
end Go.Proofs.YtliiphpbfambcaaGreatDoor.K

/- Sizes as the laws count them. Printed by gensz.py. -/
namespace Go.Proofs.YtliiphpbfambcaaGreatDoor.K
open Go Go.RowKit
set_option linter.unusedVariables false
set_option linter.unusedSimpArgs false
def szCut (n : Nat) (left : Int) : Int := IntKind.i64.wrap (left - (n : Int))
def szLen (n : Nat) (left : Int) : Int := if IntKind.i64.wrap (left - (n : Int)) < 0 then -1 else IntKind.i64.wrap (left - (n : Int))
def szFold {α : Type} (f : α → Int → Int) : List α → Int → Int
  | [], left => left
  | a :: l, left => if f a left < 0 then -1 else szFold f l (f a left)
def szAll {α : Type} (f : α → Int → Int) (l : List α) (left : Int) : Int := if IntKind.i64.wrap (left - (l.length : Int)) < 0 then -1 else szFold f l (IntKind.i64.wrap (left - (l.length : Int)))
def szSeq : List (Int → Int) → Int → Int
  | [], left => left
  | f :: fs, left => if f left < 0 then -1 else szSeq fs (f left)
def Cnt (f : Int → Int) (p : Prop) : Prop := ∀ left, 0 ≤ left → left ≤ 1048576 → ¬ f left < 0 → f left ≤ left ∧ p
def StrsS (a : List Str) : Prop := a.length ≤ 1048576 ∧ ∀ s ∈ a, s.length ≤ 1048576
def szMail (x : Mail) : Int → Int := szSeq [szLen x.flags.length, szCut x.text.length]
def smMail (x : Mail) : Prop := (x.flags.length ≤ 1048576) ∧ (x.text.length ≤ 1048576)
def szBox (x : Box) : Int → Int := szSeq [szCut x.name.length, szAll szMail x.mails, szLen x.gone.length]
def smBox (x : Box) : Prop := (x.name.length ≤ 1048576) ∧ (x.mails.length ≤ 1048576 ∧ ∀ z ∈ x.mails, smMail z) ∧ (x.gone.length ≤ 1048576)
def szStore (x : Store) : Int → Int := szSeq [szAll szBox x.boxes, szLen x.gone.length]
def smStore (x : Store) : Prop := (x.boxes.length ≤ 1048576 ∧ ∀ z ∈ x.boxes, smBox z) ∧ (x.gone.length ≤ 1048576)
def szKept (x : Kept) : Int → Int := szSeq [szStore x.store, szCut x.journal.length]
def smKept (x : Kept) : Prop := (smStore x.store) ∧ (x.journal.length ≤ 1048576)
def szSession (x : Session) : Int → Int := szSeq [szCut x.inn.length, szCut x.out.length, szLen x.view.length]
def smSession (x : Session) : Prop := (x.inn.length ≤ 1048576) ∧ (x.out.length ≤ 1048576) ∧ (x.view.length ≤ 1048576)
def szServer (x : Server) : Int → Int := szSeq [szKept x.kept, szSession x.session]
def smServer (x : Server) : Prop := (smKept x.kept) ∧ (smSession x.session)
def szLetter (x : Letter) : Int → Int := szSeq [szCut x.text.length]
def smLetter (x : Letter) : Prop := (x.text.length ≤ 1048576)
def szLink_ (x : Link) : Int → Int := szSeq [szStrs x.way]
def smLink (x : Link) : Prop := (StrsS x.way)
def smSync (x : Sync) : Prop := (smLink x.link) ∧ (StrsS x.pieces)
def szPair (x : Pair) : Int → Int := szSeq [szAll szServer x.servers, szAll szSync x.syncs, szAll szLetter x.net]
def smPair (x : Pair) : Prop := (x.servers.length ≤ 1048576 ∧ ∀ z ∈ x.servers, smServer z) ∧ (x.syncs.length ≤ 1048576 ∧ ∀ z ∈ x.syncs, smSync z) ∧ (x.net.length ≤ 1048576 ∧ ∀ z ∈ x.net, smLetter z)
end Go.Proofs.YtliiphpbfambcaaGreatDoor.K

/- Rows of copies and of zeros. -/
namespace Go.Proofs.YtliiphpbfambcaaGreatDoor.K
open Go Go.RowKit
set_option linter.unusedVariables false
set_option linter.unusedSimpArgs false
abbrev zcI : List V := [.int .i64 0]
abbrev zcT : List V := [.str []]
abbrev zcReg : List V := [.int .i64 0, .int .i64 0, .int .i64 0]
abbrev zcMail : List V := [.int .i64 0, .int .i64 0, .nil 3, .str []]
abbrev zcBox : List V := [.int .i64 0, .str [], .int .i64 0, .int .i64 0, .int .i64 0, .nil 4, .nil 1]
abbrev zcLetter : List V := [.int .i64 0, .str []]
abbrev zcSync : List V := [.int .i64 0, .int .i64 0, .nil 1, .int .i64 0, .int .i64 0, .int .i64 0, .nil 1, .bool false, .bool false]
abbrev zcServer : List V := [.int .i64 0, .int .i64 0, .nil 7, .nil 1, .str [], .int .i64 0, .str [], .str [], .bool false, .bool false, .int .i64 0, .nil 1, .bool false]
end Go.Proofs.YtliiphpbfambcaaGreatDoor.K

/- Walks: sizes, copies, comparisons of all data. Printed by w2.py. -/
namespace Go.Proofs.YtliiphpbfambcaaGreatDoor.K
open Go Go.RowKit
set_option linter.unusedVariables false
set_option linter.unusedSimpArgs false
set_option maxHeartbeats 4000000
set_option maxRecDepth 20000
end Go.Proofs.YtliiphpbfambcaaGreatDoor.K

/- What a server and a pair show: plain functions. -/
namespace Go.Proofs.YtliiphpbfambcaaGreatDoor.K
open Go Go.RowKit
set_option linter.unusedVariables false
set_option linter.unusedSimpArgs false
section
variable {P : Program} {ti : Tab} {ops : Array Oper} {o : Oper} {l : List Oper} {t t' h h' : List V} {n n' : Nat} {Q : Exit → List V → List V → Nat → Prop}
theorem TOps.append {T e : TypeId} {i : TInfo} {s x : Operand} {L off : Nat} {es es2 es3 : List (List V)} {s1 b1 : Nat} {z1 : List V} (hti : TabOk P ti) (hg : o.guard = none) (ho : o.op = .call ⟨.builtin .append, #[s, x], #[T, T]⟩) (hT : ti T = some ⟨.slice e, s1, b1, z1⟩) (he : ti e = some i)
    (hi : 0 < i.size) (hz : i.zero.length = i.size) (hs : opnd t s = .sl L i.size off es) (hx : (∃ L2 off2, opnd t x = .sl L2 i.size off2 es2) ∨ (es2 = [] ∧ ∃ q, opnd t x = .nil q)) (hL : L ≠ 0) (hLn : L < n)
    (hb : (es.length + es2.length) * i.bytes ≤ 140737488355328) (hb2 : es.length + es2.length ≤ 9223372036854775807) (hone : ∀ e ∈ es2, ∀ y ∈ e, V.one y = true) (he3 : V.killLL L (es ++ es2) = es3) (ht : putV (V.killL L t) o.dst (.sl L i.size 0 es3) = t') (hh : V.killL L h = h')
    (hk : TOps P ops [] Q l t' h' n) : TOps P ops [] Q (o :: l) t h n :=
  TOps.ok h' hg (ht ▸ hh ▸ he3 ▸ ok_append hti hT he hi hz ho hs hx hL hLn hb hb2 hone) hk
end
def fig (d : Nat) : UInt8 := if d < 10 then UInt8.ofNat (48 + d) else UInt8.ofNat (87 + d)
theorem fig_lt {d : Nat} (h : d < 10) : fig d = UInt8.ofNat (48 + d) := if_pos h
theorem fig_ge {d : Nat} (h : ¬ d < 10) : fig d = UInt8.ofNat (87 + d) := if_neg h
theorem fig_byte2 {d : Nat} (h : d < 16) (h2 : ¬ d < 10) : IntKind.u8.wrap (IntKind.i64.wrap (IntKind.i64.wrap (97 + (d : Int)) - 10)) = (((UInt8.ofNat (87 + d)).toNat : Nat) : Int) := by
  rw [show (97 : Int) + (d : Int) = ((97 + d : Nat) : Int) by omega, wrap_nat (by omega), show ((97 + d : Nat) : Int) - 10 = ((87 + d : Nat) : Int) by omega, wrap_nat (by omega), wrap_u8_nat]
abbrev figT : Str := [48,49,50,51,52,53,54,55,56,57,97,98,99,100,101,102]
theorem fig_cut {d : Nat} (h : d < 16) : (figT.take (d + 1)).drop d = [fig d] := by
  have : ∀ d < 16, (figT.take (d + 1)).drop d = [fig d] := by decide
  exact this d h
def dg (v : Int) : Nat := (v.tmod 10).natAbs
theorem dg_lt (v : Int) : dg v < 10 := by
  unfold dg
  rw [Int.natAbs_tmod]
  exact Nat.mod_lt _ (by decide)
theorem dg_neg {v : Int} (h : v.tmod 10 < 0) : IntKind.i64.wrap (0 - v.tmod 10) = (dg v : Int) := by
  have := dg_lt v
  unfold dg at *
  rw [IntKind.wrap_i64]; omega
theorem dg_pos {v : Int} (h : ¬ v.tmod 10 < 0) : v.tmod 10 = (dg v : Int) := by
  unfold dg; omega
theorem dg_max (v : Int) : (if IntKind.i64.wrap (0 - v.tmod 10) > v.tmod 10 then IntKind.i64.wrap (0 - v.tmod 10) else v.tmod 10) = (dg v : Int) := by
  have := dg_lt v
  unfold dg at *
  rw [IntKind.wrap_i64]; split <;> omega
theorem wrap_abs (x : Int) : (IntKind.i64.wrap x).natAbs ≤ x.natAbs := by rw [IntKind.wrap_i64]; omega
theorem wrap_le (x : Int) : (IntKind.i64.wrap x).natAbs ≤ 9223372036854775808 := by rw [IntKind.wrap_i64]; omega
theorem quo_abs (v : Int) : (IntKind.i64.wrap (v.tdiv 10)).natAbs ≤ v.natAbs / 10 := by
  have h := wrap_abs (v.tdiv 10)
  rw [Int.natAbs_tdiv] at h
  exact h
def decV (v : Int) (acc : Str) : Str := if h : v = 0 then acc else decV (IntKind.i64.wrap (v.tdiv 10)) (fig (dg v) :: acc)
termination_by v.natAbs
decreasing_by have := quo_abs v; omega
theorem decV_zero {v : Int} {acc : Str} (h : v = 0) : decV v acc = acc := by rw [decV, dif_pos h]
theorem decV_pos {v : Int} {acc : Str} (h : ¬ v = 0) : decV v acc = decV (IntKind.i64.wrap (v.tdiv 10)) (fig (dg v) :: acc) := by rw [decV, dif_neg h]
theorem decV_lt (k : Nat) : ∀ (v : Int) (acc : Str), v.natAbs < 10 ^ k → (decV v acc).length ≤ acc.length + k := by
  induction k with
  | zero => intro v acc h; rw [decV_zero (by omega)]; omega
  | succ k ih =>
    intro v acc h
    by_cases hv : v = 0
    · rw [decV_zero hv]; omega
    · rw [decV_pos hv]
      have h2 := quo_abs v
      have h3 := ih (IntKind.i64.wrap (v.tdiv 10)) (fig (dg v) :: acc) (by rw [Nat.pow_succ] at h; omega)
      simp only [List.length_cons] at h3
      omega
theorem decV_len (v : Int) : (decV v []).length ≤ 20 := by
  by_cases hv : v = 0
  · rw [decV_zero hv]; decide
  · rw [decV_pos hv]
    have h2 := wrap_le (v.tdiv 10)
    have h3 := decV_lt 19 (IntKind.i64.wrap (v.tdiv 10)) [fig (dg v)] (by omega)
    simp only [List.length_cons, List.length_nil] at h3
    omega
theorem decV_ge : ∀ (k : Nat) (v : Int) (acc : Str), v.natAbs ≤ k → acc.length ≤ (decV v acc).length := by
  intro k
  induction k with
  | zero => intro v acc h; rw [decV_zero (by omega)]; exact Nat.le_refl _
  | succ k ih =>
    intro v acc h
    by_cases hv : v = 0
    · rw [decV_zero hv]; exact Nat.le_refl _
    · rw [decV_pos hv]
      have h2 := quo_abs v
      have h3 := ih (IntKind.i64.wrap (v.tdiv 10)) (fig (dg v) :: acc) (by omega)
      simp only [List.length_cons] at h3
      omega
theorem decV_acc {v m : Int} {acc : Str} (h : decV m acc = decV v []) : acc.length ≤ 20 := by
  have h1 := decV_ge _ m acc (Nat.le_refl _)
  have h2 := decV_len v
  rw [h] at h1
  omega
theorem quo_abs_lt {v : Int} (h : ¬ v = 0) : (IntKind.i64.wrap (v.tdiv 10)).natAbs < v.natAbs := by
  have := quo_abs v
  omega
def decimal (v : Int) : Str := if v = 0 then [48] else if v < 0 then 45 :: decV v [] else decV v []
theorem decimal_zero {v : Int} (h : v = 0) : decimal v = [48] := if_pos h
theorem decimal_neg {v : Int} (h : v < 0) : decimal v = 45 :: decV v [] := (if_neg (by omega)).trans (if_pos h)
theorem decimal_pos {v : Int} (h : ¬ v = 0) (h2 : ¬ v < 0) : decimal v = decV v [] := (if_neg h).trans (if_neg h2)
theorem decimal_len (v : Int) : (decimal v).length ≤ 21 := by
  have := decV_len v
  unfold decimal
  split
  · simp
  · split
    · simp only [List.length_cons]; omega
    · omega
def numS (v : Int) : Str := decimal (if v > 0 then v else 0)
def hexC (c : UInt8) : Str := [fig (c.toNat / 16), fig (c.toNat % 16)]
def hexL (s : Str) : Str := s.flatMap hexC
def hexS (s : Str) : Str := if s.length > 20000 then [] else hexL s
def flB (r : Reg) : Nat := (r.val % 2).toNat
def flN : Nat → List Reg → Nat
  | _, [] => 0
  | i, r :: l => flB r * 2 ^ i + flN (i + 1) l
def mailS (m : Mail) : Str := [32] ++ numS m.uid ++ [32] ++ decimal (flN 0 (m.flags.take 3) : Int) ++ [32] ++ hexS m.text ++ [10]
def boxH (b : Box) : Str := b.name ++ [32] ++ numS b.next ++ [10]
def boxS (b : Box) : Str := boxH b ++ b.mails.flatMap mailS
def saidS (s : Store) : Str := s.boxes.flatMap boxS
def serverS (v : Server) : Str := [115,101,114,118,101,114,32] ++ numS v.kept.store.by_ ++ [32] ++ (if v.up then [117,112] else [100,111,119,110]) ++ [10] ++ saidS v.kept.store
theorem min2 {n : Nat} : (if (n : Int) < 2 then (n : Int) else 2) = ((min 2 n : Nat) : Int) := by split <;> omega
def pairS (p : Pair) (b : Bool) : Str := (p.servers.take 2).flatMap serverS ++ (if b then [97,103,114,101,101,10] else [97,112,97,114,116,10])
end Go.Proofs.YtliiphpbfambcaaGreatDoor.K

/- Plain: scripts read. -/
namespace Go.Proofs.YtliiphpbfambcaaGreatDoor.K
open Go Go.RowKit
set_option linter.unusedVariables false
set_option linter.unusedSimpArgs false
def isDig (b : UInt8) : Bool := decide (48 ≤ b.toNat ∧ b.toNat ≤ 57)
def decOf : Str → Nat → Nat
  | [], n => n
  | b :: l, n => decOf l (10 * n + (b.toNat - 48))
theorem decOf_app (a b : Str) : ∀ n, decOf (a ++ b) n = decOf b (decOf a n) := by
  induction a with
  | nil => intro n; rfl
  | cons x a ih => intro n; exact ih _
theorem decOf_lt : ∀ (l : Str) (n k : Nat), l.all isDig = true → n < 10 ^ k → decOf l n < 10 ^ (k + l.length)
  | [], n, k, _, h => by simpa [decOf] using h
  | b :: l, n, k, hd, h => by
    rw [List.all_cons, Bool.and_eq_true] at hd
    have hb : 48 ≤ b.toNat ∧ b.toNat ≤ 57 := by have := hd.1; unfold isDig at this; exact of_decide_eq_true this
    have := decOf_lt l (10 * n + (b.toNat - 48)) (k + 1) hd.2 (by rw [Nat.pow_succ]; omega)
    rw [decOf, List.length_cons, show k + (l.length + 1) = k + 1 + l.length by omega]
    exact this
def readDec (t : Str) : Nat × Bool :=
  if 1 ≤ t.length ∧ t.length ≤ 10 ∧ t.all isDig = true ∧ decOf t 0 ≤ 1000000000 ∧ decimal (decOf t 0 : Int) = t then (decOf t 0, true) else (0, false)
def okByte (b : UInt8) : Bool := decide (32 ≤ b.toNat ∧ b.toNat ≤ 126)
def endWord (cur : Str) (out : List Str) : List Str := if cur = [] then out else out ++ [cur]
def wordsGo : Str → Str → List Str → List Str
  | [], cur, out => endWord cur out
  | b :: l, cur, out => if b.toNat = 32 then wordsGo l [] (endWord cur out) else wordsGo l (cur ++ [b]) out
def wordsOf (l : Str) : List Str := wordsGo l [] []
def partsOf (l : Str) : List Str × Bool :=
  if l.length ≤ 600 ∧ l.all okByte = true ∧ (wordsOf l).length ≤ 10 then (wordsOf l, true) else ([], false)
def splitNl : Str → Str → List Str
  | [], cur => [cur]
  | b :: l, cur => if b.toNat = 10 then cur :: splitNl l [] else splitNl l (cur ++ [b])
def cutLast (l : List Str) : List Str := if l.getLast? = some [] then l.dropLast else l
def linesOf (s : Str) : List Str := cutLast (splitNl s [])
abbrev wSay : Str := [115,97,121]
abbrev wCalm : Str := [99,97,108,109]
def kinds : List (Str × Int × Nat) := [([115,116,101,112], 2, 2), ([109,101,101,116], 3, 0), ([115,112,101,97,107], 4, 1), ([99,97,114,114,121], 5, 1), ([108,111,115,101], 6, 1), ([116,119,105,99,101], 7, 1), ([102,97,108,108], 8, 2), ([114,105,115,101], 9, 1), ([115,112,111,105,108], 10, 2)]
def kindOf (w : Str) : Option (Int × Nat) := (kinds.find? (fun k => k.1 = w)).map (·.2)
def joinB : List Str → Str
  | [] => []
  | [x] => x
  | x :: y :: l => x ++ [32] ++ joinB (y :: l)
def zEvent : Event := ⟨0, 0, 0, []⟩
def evOf : List Str → Option Event
  | [] => none
  | w :: p =>
    if w = wSay then
      match p with
      | [] => none
      | a :: q => if (readDec a).2 = true ∧ eventOk ⟨1, (readDec a).1, 0, joinB q ++ [13, 10]⟩ = true then some ⟨1, (readDec a).1, 0, joinB q ++ [13, 10]⟩ else none
    else match kindOf w with
      | none => none
      | some (k, m) =>
        if p.length = m ∧ p.all (fun x => (readDec x).2) = true ∧ eventOk ⟨k, ((p.map fun x => ((readDec x).1 : Int)).getD 0 0), ((p.map fun x => ((readDec x).1 : Int)).getD 1 0), []⟩ = true
        then some ⟨k, ((p.map fun x => ((readDec x).1 : Int)).getD 0 0), ((p.map fun x => ((readDec x).1 : Int)).getD 1 0), []⟩ else none
def mute (l : Str) : Bool := (partsOf l).2 && (match (partsOf l).1 with | [] => true | w :: _ => decide ((w.getD 0 0).toNat = 35))
def readGo : List Str → Nat → List Event → Bool → List Event × Bool × Int
  | [], _, out, calm => (out, calm, 0)
  | l :: r, i, out, calm =>
    if mute l = true then readGo r (i + 1) out calm
    else if (!(partsOf l).2 || calm) = true then ([], false, (i : Int) + 1)
    else if (partsOf l).1 = [wCalm] then readGo r (i + 1) out true
    else match evOf (partsOf l).1 with
      | none => ([], false, (i : Int) + 1)
      | some e => if out.length = 100 then ([], false, (i : Int) + 1) else readGo r (i + 1) (out ++ [e]) calm
def readScript (s : Str) : List Event × Bool × Int := if s.length > 3000 then ([], false, -1) else readGo (linesOf s) 0 [] false
theorem readGo_mute {l : Str} (h : mute l = true) (r : List Str) (i : Nat) (out : List Event) (calm : Bool) : readGo (l :: r) i out calm = readGo r (i + 1) out calm := by rw [readGo, if_pos h]
theorem readGo_more {m : List Str} (hm : ∀ l ∈ m, mute l = true) : ∀ (r : List Str) (i j : Nat) (out : List Event) (calm : Bool) (a : List Event) (b : Bool), readGo r i out calm = (a, b, 0) → readGo (r ++ m) j out calm = (a, b, 0)
  | [], i, j, out, calm, a, b, h => by
    rw [readGo] at h
    simp only [Prod.mk.injEq, and_true] at h
    obtain ⟨rfl, rfl⟩ := h
    rw [List.nil_append]
    clear i
    induction m generalizing j with
    | nil => rw [readGo]
    | cons l m ih => rw [readGo_mute (hm l (List.mem_cons_self ..))]; exact ih (fun x hx => hm x (List.mem_cons_of_mem _ hx)) _
  | l :: r, i, j, out, calm, a, b, h => by
    rw [List.cons_append]
    rw [readGo] at h ⊢
    split at h
    · rename_i h1; rw [if_pos h1]; exact readGo_more hm r _ _ _ _ _ _ h
    · rename_i h1
      rw [if_neg h1]
      split at h
      · simp only [Prod.mk.injEq] at h; omega
      · rename_i h2
        rw [if_neg h2]
        split at h
        · rename_i h3; rw [if_pos h3]; exact readGo_more hm r _ _ _ _ _ _ h
        · rename_i h3
          rw [if_neg h3]
          cases he : evOf (partsOf l).1 with
          | none => rw [he] at h; simp only [Prod.mk.injEq] at h; omega
          | some e =>
            rw [he] at h
            dsimp only at h ⊢
            split at h
            · simp only [Prod.mk.injEq] at h; omega
            · rename_i h4; rw [if_neg h4]; exact readGo_more hm r _ _ _ _ _ _ h
theorem splitNl_ne : ∀ (s cur : Str), splitNl s cur ≠ []
  | [], _ => by simp [splitNl]
  | b :: l, cur => by
    rw [splitNl]
    split
    · simp
    · exact splitNl_ne l _
theorem splitNl_app (b : Str) : ∀ (a cur : Str), splitNl (a ++ 10 :: b) cur = splitNl a cur ++ splitNl b []
  | [], cur => by simp [splitNl]
  | x :: a, cur => by
    rw [List.cons_append, splitNl, splitNl]
    split
    · rw [splitNl_app b a []]; rfl
    · exact splitNl_app b a _
abbrev sAhead : Str := [35,32,115,97,105,100,10,32,32,32,10]
abbrev sBehind : Str := [10,32,32,35,32,109,111,114,101,10]
theorem mute_blank : mute [] = true := by decide
theorem lines_more (s : Str) : ∃ m, (∀ l ∈ m, mute l = true) ∧ linesOf (sAhead ++ s ++ sBehind) = [[35,32,115,97,105,100], [32,32,32]] ++ linesOf s ++ m := by
  have h1 : splitNl (sAhead ++ s ++ sBehind) [] = [[35,32,115,97,105,100], [32,32,32]] ++ (splitNl s [] ++ [[32,32,35,32,109,111,114,101], []]) := by
    have e : sAhead ++ s ++ sBehind = [35,32,115,97,105,100] ++ 10 :: ([32,32,32] ++ 10 :: (s ++ 10 :: [32,32,35,32,109,111,114,101,10])) := by simp
    rw [e, splitNl_app, splitNl_app, splitNl_app]
    have e1 : splitNl [35,32,115,97,105,100] [] = [[35,32,115,97,105,100]] := by decide
    have e2 : splitNl [32,32,32] [] = [[32,32,32]] := by decide
    have e3 : splitNl [32,32,35,32,109,111,114,101,10] [] = [[32,32,35,32,109,111,114,101], []] := by decide
    rw [e1, e2, e3]; rfl
  have hne := splitNl_ne s []
  generalize hS : splitNl s [] = S at h1 hne
  have hl : linesOf (sAhead ++ s ++ sBehind) = [[35,32,115,97,105,100], [32,32,32]] ++ (S ++ [[32,32,35,32,109,111,114,101]]) := by
    unfold linesOf cutLast
    rw [h1]
    rw [if_pos (by rw [← List.append_assoc, show ([[32,32,35,32,109,111,114,101], []] : List Str) = [[32,32,35,32,109,111,114,101]] ++ [[]] from rfl, ← List.append_assoc, List.getLast?_concat])]
    rw [← List.append_assoc, show ([[32,32,35,32,109,111,114,101], []] : List Str) = [[32,32,35,32,109,111,114,101]] ++ [[]] from rfl, ← List.append_assoc, List.dropLast_concat, List.append_assoc]
  have hm1 : mute [32,32,35,32,109,111,114,101] = true := by decide
  have hs : linesOf s = cutLast S := by unfold linesOf; rw [hS]
  by_cases hc : S.getLast? = some []
  · refine ⟨[[], [32,32,35,32,109,111,114,101]], fun l hl => ?_, ?_⟩
    · rcases List.mem_cons.1 hl with rfl | hl
      · exact mute_blank
      · rcases List.mem_cons.1 hl with rfl | hl
        · exact hm1
        · cases hl
    · rw [hl, hs, cutLast, if_pos hc]
      have : S = S.dropLast ++ [[]] := by
        have h9 := List.getLast?_eq_some_iff.1 hc
        obtain ⟨ys, rfl⟩ := h9
        rw [List.dropLast_concat]
      rw [List.append_assoc]
      conv => lhs; rw [this]
      simp
  · refine ⟨[[32,32,35,32,109,111,114,101]], fun l hl => ?_, ?_⟩
    · rcases List.mem_cons.1 hl with rfl | hl
      · exact hm1
      · cases hl
    · rw [hl, hs, cutLast, if_neg hc, List.append_assoc]
theorem script_remarks {s : Str} (h : (readScript s).2.2 = 0) (h2 : (sAhead ++ s ++ sBehind).length ≤ 3000) : readScript (sAhead ++ s ++ sBehind) = readScript s := by
  have hs : ¬ s.length > 3000 := by simp only [List.length_append] at h2; omega
  rw [readScript, if_neg hs] at h
  rw [readScript, if_neg (by omega), readScript, if_neg hs]
  obtain ⟨m, hm, hl⟩ := lines_more s
  rw [hl]
  have e : readGo (linesOf s) 0 [] false = ((readGo (linesOf s) 0 [] false).1, (readGo (linesOf s) 0 [] false).2.1, 0) := by rw [← h]
  have h3 := readGo_more hm (linesOf s) 0 (0 + 1 + 1) [] false _ _ e
  rw [List.append_assoc, List.cons_append, readGo_mute (by decide), List.cons_append, readGo_mute (by decide), List.nil_append, h3]
  exact e.symm
end Go.Proofs.YtliiphpbfambcaaGreatDoor.K

/- Plain: texts split at a byte, as the kit's shelf tells it. -/
namespace Go.Proofs.YtliiphpbfambcaaGreatDoor.K
open Go Go.RowKit
set_option linter.unusedVariables false
set_option linter.unusedSimpArgs false
def splitC (c : UInt8) : Str → Str → List Str
  | [], cur => [cur]
  | b :: l, cur => if b = c then cur :: splitC c l [] else splitC c l (cur ++ [b])
theorem splitNl_eq : ∀ (s cur : Str), splitNl s cur = splitC 10 s cur
  | [], cur => rfl
  | b :: l, cur => by
    rw [splitNl, splitC]
    by_cases h : b = 10
    · subst h; rw [if_pos rfl, if_pos (by decide), splitNl_eq l []]
    · rw [if_neg h, if_neg (fun e : b.toNat = 10 => h (UInt8.toNat_inj.1 e)), splitNl_eq l _]
def headOn (cur : Str) : List Str → List Str
  | [] => [cur]
  | x :: r => (cur ++ x) :: r
theorem headOn_nil {l : List Str} (h : l ≠ []) : headOn [] l = l := by cases l with | nil => exact absurd rfl h | cons x r => rfl
theorem splitK_ne (sep : List UInt8) (k : Nat) (s : Str) : Lib.splitK sep 0 k s ≠ [] := by
  cases k with
  | zero => simp [Lib.splitK]
  | succ k => rw [Lib.splitK]; split <;> simp
theorem index_cons_ne {b c : UInt8} (h : b ≠ c) (l : Str) : Lib.index (b :: l) [c] = if Lib.index l [c] == -1 then -1 else Lib.index l [c] + 1 := by
  have hp : ([c] : List UInt8).isPrefixOf (b :: l) = false := by simp [List.isPrefixOf, Ne.symm h]
  rw [Lib.index, hp]; simp
theorem index_cons_eq (c : UInt8) (l : Str) : Lib.index (c :: l) [c] = 0 := by rw [Lib.index]; simp [List.isPrefixOf]
theorem index_nil (c : UInt8) : Lib.index [] [c] = -1 := by rw [Lib.index]; simp [List.isPrefixOf]
theorem splitK_C (c : UInt8) : ∀ (s cur : Str) (k : Nat), s.count c ≤ k → headOn cur (Lib.splitK [c] 0 k s) = splitC c s cur
  | [], cur, k, _ => by
    have e : Lib.splitK [c] 0 k ([] : Str) = [[]] := by
      cases k with
      | zero => rfl
      | succ k => rw [Lib.splitK, if_pos (by rw [index_nil]; rfl)]
    rw [e, splitC, headOn, List.append_nil]
  | b :: l, cur, k, hk => by
    rw [splitC]
    by_cases h : b = c
    · subst h
      rw [if_pos rfl]
      rw [List.count_cons_self] at hk
      obtain ⟨k, rfl⟩ : ∃ j, k = j + 1 := ⟨k - 1, by omega⟩
      rw [Lib.splitK, if_neg (by rw [index_cons_eq]; decide), index_cons_eq]
      have := splitK_C b l [] k (by omega)
      rw [headOn_nil (splitK_ne _ _ _)] at this
      rw [← this]
      simp [headOn]
    · rw [if_neg h]
      rw [List.count_cons_of_ne (by exact h)] at hk
      rw [← splitK_C c l (cur ++ [b]) k hk]
      cases k with
      | zero => simp [Lib.splitK, headOn]
      | succ k =>
        rw [Lib.splitK, Lib.splitK, index_cons_ne h]
        by_cases hm : Lib.index l [c] = -1
        · rw [hm]; simp [headOn]
        · have hge := Lib.index_ge l [c]
          obtain ⟨i, hi⟩ : ∃ i : Nat, Lib.index l [c] = i := ⟨(Lib.index l [c]).toNat, by omega⟩
          rw [hi]
          have h1 : ¬ ((i : Int) == -1) = true := by simp
          have h2 : ¬ ((i : Int) + 1 == -1) = true := by simp; omega
          rw [if_neg h1, if_neg h1, if_neg h2]
          have h3 : ((i : Int) + 1).toNat = i + 1 := by omega
          rw [h3]
          simp [headOn]
theorem split_C (c : UInt8) (s : Str) : Lib.splitK [c] 0 (s.count c) s = splitC c s [] := by
  rw [← splitK_C c s [] _ (Nat.le_refl _), headOn_nil (splitK_ne _ _ _)]
theorem splitC_len (c : UInt8) : ∀ (s cur : Str), (splitC c s cur).length = s.count c + 1
  | [], _ => rfl
  | b :: l, cur => by
    rw [splitC]
    split
    · rename_i h; subst h; rw [List.length_cons, splitC_len b l [], List.count_cons_self]
    · rename_i h; rw [splitC_len c l _, List.count_cons_of_ne (by exact h)]
end Go.Proofs.YtliiphpbfambcaaGreatDoor.K

/- Plain: numbers read, words told: for the walks of scripts. -/
namespace Go.Proofs.YtliiphpbfambcaaGreatDoor.K
open Go Go.RowKit
set_option linter.unusedVariables false
set_option linter.unusedSimpArgs false
theorem decOf_next {s : Str} {i : Nat} (h : i < s.length) : decOf (s.take (i + 1)) 0 = 10 * decOf (s.take i) 0 + (s[i].toNat - 48) := by
  rw [List.take_succ_eq_append_getElem h, decOf_app]; rfl
theorem all_next {p : UInt8 → Bool} {s : Str} {i : Nat} (h : i < s.length) (h1 : (s.take i).all p = true) (h2 : p s[i] = true) : (s.take (i + 1)).all p = true := by
  rw [List.take_succ_eq_append_getElem h, List.all_append, h1]; simp [h2]
theorem dec_small {s : Str} {i : Nat} (h : (s.take i).all isDig = true) (hi : i ≤ 10) : decOf (s.take i) 0 ≤ 10000000000 := by
  have h1 := decOf_lt (s.take i) 0 0 h (by decide)
  have h2 : 0 + (s.take i).length ≤ 10 := by rw [List.length_take]; omega
  have h3 := Nat.pow_le_pow_right (n := 10) (by decide) h2
  omega
theorem isDig_t {b : UInt8} (h : isDig b = true) : 48 ≤ b.toNat ∧ b.toNat ≤ 57 := of_decide_eq_true h
theorem readDec_bad {s : Str} {i : Nat} (h : i < s.length) (hb : isDig s[i] = false) : readDec s = (0, false) := by
  unfold readDec
  refine if_neg fun hh => ?_
  have := List.all_eq_true.1 hh.2.2.1 _ (List.getElem_mem h)
  rw [hb] at this; cases this
theorem readDec_long {s : Str} (h : 10 < s.length) : readDec s = (0, false) := if_neg fun hh => by omega
theorem readDec_none : readDec [] = (0, false) := if_neg fun hh => by simp at hh
theorem readDec_end {s : Str} (h : s.length ≤ 10) (hd : s.all isDig = true) : readDec s = if decOf s 0 ≤ 1000000000 ∧ decimal (decOf s 0 : Int) = s then (decOf s 0, true) else (0, false) := by
  unfold readDec
  by_cases h0 : 1 ≤ s.length
  · simp only [h0, h, hd, true_and]
  · have : s = [] := List.length_eq_zero_iff.1 (by omega)
    subst this
    rw [if_neg (fun hh => by omega), if_neg]
    rintro ⟨_, h2⟩
    revert h2
    decide
abbrev vRD (r : Nat × Bool) : V := .tup [.int .i64 (r.1 : Int), .bool r.2]
theorem joinB_next {p : List Str} {i : Nat} (h : i < p.length) (h0 : 0 < i) : joinB (p.take (i + 1)) = joinB (p.take i) ++ [32] ++ p[i] := by
  rw [List.take_succ_eq_append_getElem h]
  have hne : p.take i ≠ [] := by intro e; have := congrArg List.length e; rw [List.length_take, List.length_nil] at this; omega
  generalize p.take i = l at hne
  induction l with
  | nil => exact absurd rfl hne
  | cons x l ih =>
    cases l with
    | nil => simp [joinB]
    | cons y l =>
      have := ih (by simp)
      simp only [List.cons_append, joinB] at this ⊢
      rw [this]; simp
theorem joinB_one {p : List Str} (h : 0 < p.length) : joinB (p.take 1) = p[0] := by
  cases p with
  | nil => simp at h
  | cons x l => rfl
theorem joinB_one' {p : List Str} {i : Nat} (h : i < p.length) (h0 : i = 0) : joinB (p.take (i + 1)) = joinB (p.take i) ++ p[i] := by
  subst h0; rw [joinB_one h]; rfl
theorem joinB_len {m : Nat} : ∀ {l : List Str}, (∀ x ∈ l, x.length ≤ m) → (joinB l).length ≤ l.length * (m + 1)
  | [], _ => by simp [joinB]
  | [x], h => by have := h x (List.mem_cons_self ..); simp [joinB]; omega
  | x :: y :: l, h => by
    have h1 := h x (List.mem_cons_self ..)
    have h2 := joinB_len (l := y :: l) fun z hz => h z (List.mem_cons_of_mem _ hz)
    rw [joinB, List.length_append, List.length_append, List.length_cons (a := x), Nat.add_mul]
    simp only [List.length_cons, List.length_nil] at h2 ⊢
    omega
def kS (w : Str) : Int × Nat := (kindOf w).getD (0, 0)
def kI (w : Str) : Int × Int := match kindOf w with | some (k, m) => (k, (m : Int)) | none => (0, -1)
abbrev vKS (w : Str) : V := .tup [.int .i64 (kS w).1, .int .i64 ((kS w).2 : Int)]
abbrev vKI (w : Str) : V := .tup [.int .i64 (kI w).1, .int .i64 (kI w).2]
def badAt (s : Str) (i : Nat) : Bool := match s[i]? with | some b => !okByte b | none => false
def midAt (s : Str) (i : Nat) : Bool := match s[i]? with | some b => decide (¬ b.toNat = 32) | none => false
theorem badAt_lt {s : Str} {i : Nat} (h : i < s.length) : badAt s i = !okByte s[i] := by unfold badAt; rw [List.getElem?_eq_getElem h]
theorem badAt_ge {s : Str} {i : Nat} (h : s.length ≤ i) : badAt s i = false := by unfold badAt; rw [List.getElem?_eq_none h]
theorem midAt_lt {s : Str} {i : Nat} (h : i < s.length) : midAt s i = decide (¬ s[i].toNat = 32) := by unfold midAt; rw [List.getElem?_eq_getElem h]
theorem midAt_ge {s : Str} {i : Nat} (h : s.length ≤ i) : midAt s i = false := by unfold midAt; rw [List.getElem?_eq_none h]
abbrev curW (s : Str) (i b : Nat) : Str := (s.take i).drop b
structure PW (s : Str) (i b : Nat) (out : List Str) : Prop where
  i1 : i ≤ s.length
  b1 : b ≤ i
  go : wordsGo (s.drop i) (curW s i b) out = wordsOf s
  ok : (s.take i).all okByte = true
  len : out.length ≤ i
structure PE (s : Str) (out : List Str) : Prop where
  go : out = wordsOf s
  ok : s.all okByte = true
  len : out.length ≤ s.length + 1
def PWE (s : Str) (i b : Nat) (out : List Str) : Prop := PW s i b out ∨ (i = s.length + 1 ∧ PE s out)
theorem curW_len {s : Str} {i b : Nat} (h : i ≤ s.length) : (curW s i b).length = i - b := by simp [curW]; omega
theorem curW_nil {s : Str} {i : Nat} : curW s i i = [] := by simp [curW]
theorem curW_next {s : Str} {i b : Nat} (h : i < s.length) (hb : b ≤ i) : curW s (i + 1) b = curW s i b ++ [s[i]] := by
  unfold curW
  rw [List.take_succ_eq_append_getElem h, List.drop_append_of_le_length (by rw [List.length_take]; omega)]
theorem endW {s : Str} {i b : Nat} {out : List Str} (h : i ≤ s.length) : endWord (curW s i b) out = if b < i then out ++ [curW s i b] else out := by
  unfold endWord
  by_cases hb : b < i
  · rw [if_pos hb, if_neg]
    intro e
    have := curW_len (b := b) h
    rw [e] at this; simp at this; omega
  · rw [if_neg hb, if_pos (List.length_eq_zero_iff.1 (by rw [curW_len h]; omega))]
theorem PW.mid {s : Str} {i b : Nat} {out : List Str} (h : PW s i b out) (hbad : badAt s i = false) (hm : midAt s i = true) : PW s (i + 1) b out := by
  have hi : i < s.length := by
    rcases Nat.lt_or_ge i s.length with h1 | h1
    · exact h1
    · rw [midAt_ge h1] at hm; cases hm
  rw [badAt_lt hi] at hbad
  rw [midAt_lt hi] at hm
  have hm' : ¬ s[i].toNat = 32 := of_decide_eq_true hm
  refine ⟨by omega, by have := h.b1; omega, ?_, all_next hi h.ok (by simpa using hbad), by have := h.len; omega⟩
  rw [← h.go, List.drop_eq_getElem_cons hi, wordsGo, if_neg hm', curW_next hi h.b1]
theorem PW.blank {s : Str} {i b : Nat} {out : List Str} (h : PW s i b out) (hbad : badAt s i = false) (hm : midAt s i = false) : PWE s (i + 1) (i + 1) (if b < i then out ++ [curW s i b] else out) := by
  have hl : (if b < i then out ++ [curW s i b] else out).length ≤ i + 1 := by
    have := h.len
    split
    · rw [List.length_append, List.length_singleton]; omega
    · omega
  rcases Nat.lt_or_ge i s.length with hi | hi
  · rw [badAt_lt hi] at hbad
    rw [midAt_lt hi] at hm
    have hm' : s[i].toNat = 32 := by simpa using hm
    refine .inl ⟨by omega, Nat.le_refl _, ?_, all_next hi h.ok (by simpa using hbad), hl⟩
    rw [← h.go, List.drop_eq_getElem_cons hi, wordsGo, if_pos hm', curW_nil, endW h.i1]
  · have he : i = s.length := by have := h.i1; omega
    subst he
    refine .inr ⟨rfl, ?_, by have := h.ok; rwa [List.take_length] at this, hl⟩
    have := h.go
    rw [List.drop_length, wordsGo, endW (Nat.le_refl _)] at this
    exact this
theorem parts_bad {s : Str} {i : Nat} (hb : badAt s i = true) : partsOf s = ([], false) := by
  have hi : i < s.length := by
    rcases Nat.lt_or_ge i s.length with h1 | h1
    · exact h1
    · rw [badAt_ge h1] at hb; cases hb
  rw [badAt_lt hi] at hb
  refine if_neg fun hh => ?_
  have := List.all_eq_true.1 hh.2.1 _ (List.getElem_mem hi)
  rw [this] at hb; cases hb
theorem parts_long {s : Str} (h : ¬ s.length ≤ 600) : partsOf s = ([], false) := if_neg fun hh => h hh.1
theorem parts_end {s : Str} {out : List Str} (h : s.length ≤ 600) (he : PE s out) : partsOf s = if out.length ≤ 10 then (out, true) else ([], false) := by
  have h2 := he.go
  subst h2
  unfold partsOf
  simp only [h, he.ok, true_and]
abbrev vPO (r : List Str × Bool) : V := .tup [.sl 0 1 0 (r.1.map cS), .bool r.2]
def fromV (b i : Nat) : Int := if b = i then -1 else (b : Int)
theorem fromV_eq {b i : Nat} (h : b = i) : fromV b i = -1 := if_pos h
theorem fromV_ne {b i : Nat} (h : ¬ b = i) : fromV b i = (b : Int) := if_neg h
theorem okIn (b : UInt8) : inR (IntKind.i64.wrap (b.toNat : Int)) 32 126 = okByte b := by
  have := b.toNat_lt
  rw [wrap_nat (by omega)]
  unfold inR okByte
  rw [← Bool.decide_and, decide_eq_decide]; omega
def startAt (s : Str) (i b : Nat) : Bool := midAt s i && decide (b = i)
def endAt (s : Str) (i b : Nat) : Bool := !midAt s i && decide (b < i)
theorem startAt_t {s : Str} {i b : Nat} (h : startAt s i b = true) : midAt s i = true ∧ b = i := by simpa [startAt] using h
theorem endAt_t {s : Str} {i b : Nat} (h : endAt s i b = true) : midAt s i = false ∧ b < i := by simpa [endAt] using h
theorem startV (s : Str) (i b : Nat) (hm : midAt s i = true) : decide (fromV b i < 0) = startAt s i b := by
  unfold startAt fromV; rw [hm, Bool.true_and, decide_eq_decide]; split <;> omega
theorem startF {s : Str} {i b : Nat} (hm : midAt s i = false) : startAt s i b = false := by simp [startAt, hm]
theorem endV (s : Str) (i b : Nat) (hb : b ≤ i) (hm : midAt s i = false) : decide (fromV b i ≥ 0) = endAt s i b := by
  unfold endAt fromV; rw [hm, Bool.not_false, Bool.true_and, decide_eq_decide]; split <;> omega
theorem endF {s : Str} {i b : Nat} (hm : midAt s i = true) : endAt s i b = false := by simp [endAt, hm]
def keepB (s : Str) (i b : Nat) : Nat := if midAt s i = true then b else i + 1
theorem PW.keep {s : Str} {i b : Nat} {out : List Str} (h : PW s i b out) (hbad : badAt s i = false) (h1 : startAt s i b = false) (h2 : endAt s i b = false) : PWE s (i + 1) (keepB s i b) out ∧ fromV b i = fromV (keepB s i b) (i + 1) := by
  have hb := h.b1
  unfold keepB
  cases hm : midAt s i with
  | true =>
    rw [if_pos rfl]
    refine ⟨.inl (h.mid hbad hm), ?_⟩
    have : ¬ b = i := by intro e; simp [startAt, hm, e] at h1
    rw [fromV_ne this, fromV_ne (by omega)]
  | false =>
    rw [if_neg (by decide)]
    have hn : ¬ b < i := by intro e; simp [endAt, hm, e] at h2
    have h3 := h.blank hbad hm
    rw [if_neg hn] at h3
    refine ⟨h3, ?_⟩
    rw [fromV_eq (by omega), fromV_eq rfl]
end Go.Proofs.YtliiphpbfambcaaGreatDoor.K

/- Plain: the lines of a script, event lines. -/
namespace Go.Proofs.YtliiphpbfambcaaGreatDoor.K
open Go Go.RowKit
set_option linter.unusedVariables false
set_option linter.unusedSimpArgs false
structure LI (s : Str) (i b : Nat) (out : List Str) : Prop where
  i1 : i ≤ s.length
  b1 : b ≤ i
  go : out ++ splitNl (s.drop i) (curW s i b) = splitNl s []
  len : out.length ≤ i
theorem LI.beg (s : Str) : LI s 0 0 [] := ⟨Nat.zero_le _, Nat.le_refl _, rfl, Nat.le_refl _⟩
theorem LI.nl {s : Str} {i b : Nat} {out : List Str} (h : LI s i b out) (hi : i < s.length) (hn : s[i].toNat = 10) : LI s (i + 1) (i + 1) (out ++ [curW s i b]) := by
  refine ⟨by omega, Nat.le_refl _, ?_, by have := h.len; rw [List.length_append, List.length_singleton]; omega⟩
  rw [← h.go, List.drop_eq_getElem_cons hi, splitNl, if_pos hn, curW_nil]; simp
theorem LI.mid {s : Str} {i b : Nat} {out : List Str} (h : LI s i b out) (hi : i < s.length) (hn : ¬ s[i].toNat = 10) : LI s (i + 1) b out := by
  refine ⟨by omega, by have := h.b1; omega, ?_, by have := h.len; omega⟩
  rw [← h.go, List.drop_eq_getElem_cons hi, splitNl, if_neg hn, curW_next hi h.b1]
theorem LI.fin {s : Str} {b : Nat} {out : List Str} (h : LI s s.length b out) : linesOf s = if b < s.length then out ++ [s.drop b] else out := by
  have h1 := h.go
  rw [List.drop_length, splitNl] at h1
  have h2 : curW s s.length b = s.drop b := by simp [curW]
  rw [h2] at h1
  unfold linesOf cutLast
  rw [← h1, List.getLast?_concat]
  by_cases hb : b < s.length
  · rw [if_pos hb, if_neg]
    intro e
    have := congrArg List.length (Option.some.inj e)
    rw [List.length_drop, List.length_nil] at this; omega
  · rw [if_neg hb, if_pos (congrArg some (List.drop_eq_nil_of_le (by omega))), List.dropLast_concat]
theorem splitNl_len : ∀ (s cur : Str) (l : Str), l ∈ splitNl s cur → l.length ≤ cur.length + s.length
  | [], cur, l, h => by rw [splitNl, List.mem_singleton] at h; subst h; simp
  | b :: r, cur, l, h => by
    rw [splitNl] at h
    split at h
    · rcases List.mem_cons.1 h with rfl | h
      · simp
      · have := splitNl_len r [] l h; simp at this ⊢; omega
    · have := splitNl_len r _ l h; simp at this ⊢; omega
theorem splitNl_many : ∀ (s cur : Str), (splitNl s cur).length ≤ s.length + 1
  | [], cur => by simp [splitNl]
  | b :: r, cur => by
    rw [splitNl]
    split
    · have := splitNl_many r []; simp; omega
    · have := splitNl_many r (cur ++ [b]); simp; omega
theorem lines_mem {s l : Str} (h : l ∈ linesOf s) : l ∈ splitNl s [] := by
  unfold linesOf cutLast at h
  split at h
  · exact List.dropLast_subset _ h
  · exact h
theorem lines_len {s l : Str} (h : l ∈ linesOf s) : l.length ≤ s.length := by
  have := splitNl_len s [] l (lines_mem h); simpa using this
theorem lines_many (s : Str) : (linesOf s).length ≤ s.length + 1 := by
  have := splitNl_many s []
  unfold linesOf cutLast
  split
  · rw [List.length_dropLast]; omega
  · exact this
def evRaw : List Str → Event × Bool
  | [] => (zEvent, false)
  | w :: p =>
    if w = wSay then
      match p with
      | [] => (zEvent, false)
      | a :: q => (⟨1, (readDec a).1, 0, joinB q ++ [13, 10]⟩, (readDec a).2)
    else match kindOf w with
      | none => (zEvent, false)
      | some (k, m) =>
        if p.length = m then (⟨k, ((p.map fun x => ((readDec x).1 : Int)).getD 0 0), ((p.map fun x => ((readDec x).1 : Int)).getD 1 0), []⟩, p.all (fun x => (readDec x).2))
        else (zEvent, false)
theorem evOf_raw (p : List Str) : evOf p = if (evRaw p).2 = true ∧ eventOk (evRaw p).1 = true then some (evRaw p).1 else none := by
  cases p with
  | nil => simp [evOf, evRaw]
  | cons w p =>
    unfold evOf evRaw
    by_cases hw : w = wSay
    · simp only [if_pos hw]
      cases p with
      | nil => simp
      | cons a q => rfl
    · simp only [if_neg hw]
      cases hk : kindOf w with
      | none => simp
      | some km =>
        obtain ⟨k, m⟩ := km
        dsimp only
        by_cases hm : p.length = m
        · simp only [hm, true_and, if_true]
        · simp only [hm, false_and, if_false]; simp
theorem kind_some {w : Str} {k : Int} {m : Nat} (h : kindOf w = some (k, m)) : ¬ k = 0 ∧ m ≤ 2 := by
  unfold kindOf at h
  cases hf : kinds.find? (fun k => k.1 = w) with
  | none => rw [hf] at h; cases h
  | some x =>
    rw [hf] at h
    have hx := List.mem_of_find?_eq_some hf
    have ha : ∀ x ∈ kinds, ¬ x.2.1 = 0 ∧ x.2.2 ≤ 2 := by decide
    have := ha x hx
    obtain ⟨a, k', m'⟩ := x
    simp only [Option.map_some, Option.some.injEq, Prod.mk.injEq] at h
    obtain ⟨rfl, rfl⟩ := h
    exact this
theorem kS_le (w : Str) : (kS w).2 ≤ 2 := by
  unfold kS
  cases h : kindOf w with
  | none => decide
  | some x => obtain ⟨k, m⟩ := x; exact (kind_some h).2
theorem evRaw_no {w : Str} {p : List Str} (hw : ¬ w = wSay) (h : (kS w).1 = 0 ∨ ¬ p.length = (kS w).2) : evRaw (w :: p) = (zEvent, false) := by
  unfold kS at h
  simp only [evRaw, if_neg hw]
  cases hk : kindOf w with
  | none => rfl
  | some x =>
    obtain ⟨k, m⟩ := x
    rw [hk] at h
    have h1 := kind_some hk
    have h2 : ¬ p.length = m := by rcases h with h | h; exact absurd h h1.1; exact h
    dsimp only; rw [if_neg h2]
theorem evRaw_yes {w : Str} {p : List Str} (hw : ¬ w = wSay) (h0 : ¬ (kS w).1 = 0) (hl : p.length = (kS w).2) :
    evRaw (w :: p) = (⟨(kS w).1, ((p.map fun x => ((readDec x).1 : Int)).getD 0 0), ((p.map fun x => ((readDec x).1 : Int)).getD 1 0), []⟩, p.all (fun x => (readDec x).2)) := by
  unfold kS at h0 hl ⊢
  simp only [evRaw, if_neg hw]
  cases hk : kindOf w with
  | none => rw [hk] at h0; exact absurd rfl h0
  | some x =>
    obtain ⟨k, m⟩ := x
    rw [hk] at h0 hl
    dsimp only [Option.getD_some] at hl ⊢
    rw [if_pos hl]
theorem evRaw_0 {w : Str} {p : List Str} (hw : ¬ w = wSay) (h0 : ¬ (kS w).1 = 0) (hl : p.length = (kS w).2) (hm : (kS w).2 = 0) : evRaw (w :: p) = (⟨(kS w).1, 0, 0, []⟩, true) := by
  rw [evRaw_yes hw h0 hl]
  obtain rfl : p = [] := List.length_eq_zero_iff.1 (by omega)
  rfl
theorem evRaw_1 {w : Str} {p : List Str} (hw : ¬ w = wSay) (h0 : ¬ (kS w).1 = 0) (hl : p.length = (kS w).2) (hm : (kS w).2 = 1) (h1 : 1 < (w :: p).length) : evRaw (w :: p) = (⟨(kS w).1, (readDec (w :: p)[1]).1, 0, []⟩, (readDec (w :: p)[1]).2) := by
  rw [evRaw_yes hw h0 hl]
  match p, hl.trans hm with
  | [a], _ => simp
theorem evRaw_2 {w : Str} {p : List Str} (hw : ¬ w = wSay) (h0 : ¬ (kS w).1 = 0) (hl : p.length = (kS w).2) (hm : (kS w).2 = 2) (h1 : 1 < (w :: p).length) (h2 : 2 < (w :: p).length) : evRaw (w :: p) = (⟨(kS w).1, (readDec (w :: p)[1]).1, (readDec (w :: p)[2]).1, []⟩, (readDec (w :: p)[1]).2 && (readDec (w :: p)[2]).2) := by
  rw [evRaw_yes hw h0 hl]
  match p, hl.trans hm with
  | [a, b], _ => simp
theorem ev_say1 {v : List Str} (h : 0 < v.length) (hw : v[0] = wSay) (h1 : v.length < 2) : evRaw v = (zEvent, false) := by
  match v, h with
  | [a], _ => obtain rfl : a = wSay := hw; rfl
  | a :: b :: q, _ => simp at h1; omega
theorem ev_say {v : List Str} (h : 0 < v.length) (hw : v[0] = wSay) (h1 : 1 < v.length) : evRaw v = (⟨1, (readDec v[1]).1, 0, joinB (v.drop 2) ++ [13, 10]⟩, (readDec v[1]).2) := by
  match v, h1 with
  | a :: b :: q, _ => obtain rfl : a = wSay := hw; rfl
theorem ev_no {v : List Str} (h : 0 < v.length) (hw : ¬ v[0] = wSay) (h1 : (kS v[0]).1 = 0 ∨ ¬ v.length = (kS v[0]).2 + 1) : evRaw v = (zEvent, false) := by
  match v, h with
  | a :: q, _ => exact evRaw_no hw (by rcases h1 with h1 | h1; exact .inl h1; exact .inr fun e => h1 (by rw [List.length_cons, e]; rfl))
theorem ev_0 {v : List Str} (h : 0 < v.length) (hw : ¬ v[0] = wSay) (h0 : ¬ (kS v[0]).1 = 0) (hl : v.length = (kS v[0]).2 + 1) (hm : (kS v[0]).2 = 0) : evRaw v = (⟨(kS v[0]).1, 0, 0, []⟩, true) := by
  match v, h with
  | a :: q, _ => exact evRaw_0 hw h0 (Nat.succ.inj hl) hm
theorem ev_1 {v : List Str} (h : 0 < v.length) (hw : ¬ v[0] = wSay) (h0 : ¬ (kS v[0]).1 = 0) (hl : v.length = (kS v[0]).2 + 1) (hm : (kS v[0]).2 = 1) (h1 : 1 < v.length) : evRaw v = (⟨(kS v[0]).1, (readDec v[1]).1, 0, []⟩, (readDec v[1]).2) := by
  match v, h with
  | a :: q, _ => exact evRaw_1 hw h0 (Nat.succ.inj hl) hm h1
theorem ev_2 {v : List Str} (h : 0 < v.length) (hw : ¬ v[0] = wSay) (h0 : ¬ (kS v[0]).1 = 0) (hl : v.length = (kS v[0]).2 + 1) (hm : (kS v[0]).2 = 2) (h1 : 1 < v.length) (h2 : 2 < v.length) : evRaw v = (⟨(kS v[0]).1, (readDec v[1]).1, (readDec v[2]).1, []⟩, (readDec v[1]).2 && (readDec v[2]).2) := by
  match v, h with
  | a :: q, _ => exact evRaw_2 hw h0 (Nat.succ.inj hl) hm h1 h2
theorem split_pos (s : Str) : 0 < (splitNl s []).length := List.length_pos_iff.2 (splitNl_ne s [])
theorem lines_cut {s : Str} (h : (splitNl s []).length - 1 < (splitNl s []).length) (hb : (splitNl s [])[(splitNl s []).length - 1] = []) : linesOf s = (splitNl s []).take ((splitNl s []).length - 1) := by
  unfold linesOf cutLast
  rw [if_pos (by rw [List.getLast?_eq_getElem?, List.getElem?_eq_getElem h, hb]), List.dropLast_eq_take]
theorem lines_all {s : Str} (h : (splitNl s []).length - 1 < (splitNl s []).length) (hb : ¬ (splitNl s [])[(splitNl s []).length - 1] = []) : linesOf s = splitNl s [] := by
  unfold linesOf cutLast
  rw [if_neg (by rw [List.getLast?_eq_getElem?, List.getElem?_eq_getElem h]; exact fun e => hb (Option.some.inj e))]
theorem wrap_less {n : Nat} (h : 0 < n) (h2 : n ≤ 4611686018427387904) : IntKind.i64.wrap ((n : Int) - 1) = ((n - 1 : Nat) : Int) := by rw [IntKind.wrap_i64]; omega
end Go.Proofs.YtliiphpbfambcaaGreatDoor.K

/- Plain: a script read line by line. -/
namespace Go.Proofs.YtliiphpbfambcaaGreatDoor.K
open Go Go.RowKit
set_option linter.unusedVariables false
set_option linter.unusedSimpArgs false
theorem endWord_mem {cur : Str} {out : List Str} {w : Str} (h : w ∈ endWord cur out) : w ∈ out ∨ (w = cur ∧ 0 < cur.length) := by
  unfold endWord at h
  split at h
  · exact .inl h
  · rename_i hn
    rcases List.mem_append.1 h with h | h
    · exact .inl h
    · exact .inr ⟨List.mem_singleton.1 h, Nat.pos_of_ne_zero fun e => hn (List.length_eq_zero_iff.1 e)⟩
theorem wordsGo_mem : ∀ (l cur : Str) (out : List Str) (w : Str), w ∈ wordsGo l cur out → w ∈ out ∨ (0 < w.length ∧ w.length ≤ cur.length + l.length)
  | [], cur, out, w, h => by
    rw [wordsGo] at h
    rcases endWord_mem h with h | ⟨rfl, h⟩
    · exact .inl h
    · exact .inr ⟨h, by simp⟩
  | b :: l, cur, out, w, h => by
    rw [wordsGo] at h
    split at h
    · rcases wordsGo_mem l [] _ w h with h | ⟨h, h2⟩
      · rcases endWord_mem h with h | ⟨rfl, h⟩
        · exact .inl h
        · exact .inr ⟨h, by simp⟩
      · exact .inr ⟨h, by simp at h2 ⊢; omega⟩
    · rcases wordsGo_mem l _ _ w h with h | ⟨h, h2⟩
      · exact .inl h
      · exact .inr ⟨h, by simp at h2 ⊢; omega⟩
theorem parts_mem {l w : Str} (h : w ∈ (partsOf l).1) : 0 < w.length ∧ w.length ≤ 600 := by
  unfold partsOf at h
  split at h
  · rename_i hh
    rcases wordsGo_mem l [] [] w h with h | ⟨h, h2⟩
    · cases h
    · have := hh.1; simp at h2; exact ⟨h, by omega⟩
  · cases h
theorem parts_few (l : Str) : (partsOf l).1.length ≤ 10 := by
  unfold partsOf
  split
  · rename_i hh; exact hh.2.2
  · exact Nat.zero_le _
theorem mute_no {l : Str} (h : (partsOf l).2 = false) : mute l = false := by unfold mute; rw [h]; rfl
theorem mute_none {l : Str} (h : (partsOf l).2 = true) (h2 : (partsOf l).1.length = 0) : mute l = true := by
  unfold mute; rw [h, List.length_eq_zero_iff.1 h2]; rfl
theorem mute_word {l : Str} (h : (partsOf l).2 = true) (h2 : 0 < (partsOf l).1.length) (h3 : 0 < (partsOf l).1[0].length) : mute l = decide ((partsOf l).1[0][0].toNat = 35) := by
  unfold mute
  rw [h, Bool.true_and]
  generalize (partsOf l).1 = p at h2 h3
  match p, h2, h3 with
  | w :: p, _, h3 =>
    dsimp only
    match w, h3 with
    | b :: w, _ => rfl
structure RG (s : Str) (i : Nat) (out : List Event) (calm : Bool) : Prop where
  i1 : i ≤ (linesOf s).length
  go : readGo ((linesOf s).drop i) i out calm = readScript s
  len : out.length ≤ 100
theorem RG.beg {s : Str} (h : ¬ s.length > 3000) : RG s 0 [] false := ⟨Nat.zero_le _, by rw [readScript, if_neg h]; rfl, Nat.zero_le _⟩
section
variable {s : Str} {i : Nat} {out : List Event} {calm : Bool} (h : RG s i out calm)
include h
theorem RG.fin (hi : i = (linesOf s).length) : readScript s = (out, calm, 0) := by
  rw [← h.go, hi, List.drop_length, readGo]
theorem RG.mute (hi : i < (linesOf s).length) (hm : mute (linesOf s)[i] = true) : RG s (i + 1) out calm := by
  refine ⟨hi, ?_, h.len⟩
  rw [← h.go, List.drop_eq_getElem_cons hi, readGo, if_pos hm]
theorem RG.bad (hi : i < (linesOf s).length) (hm : K.mute (linesOf s)[i] = false) (hb : (!(partsOf (linesOf s)[i]).2 || calm) = true) : readScript s = ([], false, (i : Int) + 1) := by
  rw [← h.go, List.drop_eq_getElem_cons hi, readGo, if_neg (by rw [hm]; decide), if_pos hb]
theorem RG.calmS (hi : i < (linesOf s).length) (hm : K.mute (linesOf s)[i] = false) (hb : (!(partsOf (linesOf s)[i]).2 || calm) = false) (hc : (partsOf (linesOf s)[i]).1 = [wCalm]) : RG s (i + 1) out true := by
  refine ⟨hi, ?_, h.len⟩
  rw [← h.go, List.drop_eq_getElem_cons hi, readGo, if_neg (by rw [hm]; decide), if_neg (by rw [hb]; decide), if_pos hc]
theorem RG.evBad (hi : i < (linesOf s).length) (hm : K.mute (linesOf s)[i] = false) (hb : (!(partsOf (linesOf s)[i]).2 || calm) = false) (hc : ¬ (partsOf (linesOf s)[i]).1 = [wCalm])
    (he : (!((evRaw (partsOf (linesOf s)[i]).1).2 && eventOk (evRaw (partsOf (linesOf s)[i]).1).1) || decide (out.length = 100)) = true) : readScript s = ([], false, (i : Int) + 1) := by
  rw [← h.go, List.drop_eq_getElem_cons hi, readGo, if_neg (by rw [hm]; decide), if_neg (by rw [hb]; decide), if_neg hc, evOf_raw]
  by_cases hk : (evRaw (partsOf (linesOf s)[i]).1).2 = true ∧ eventOk (evRaw (partsOf (linesOf s)[i]).1).1 = true
  · rw [if_pos hk]
    rw [hk.1, hk.2] at he
    have : out.length = 100 := by simpa using he
    dsimp only
    rw [if_pos this]
  · rw [if_neg hk]
theorem RG.ev (hi : i < (linesOf s).length) (hm : K.mute (linesOf s)[i] = false) (hb : (!(partsOf (linesOf s)[i]).2 || calm) = false) (hc : ¬ (partsOf (linesOf s)[i]).1 = [wCalm])
    (he : (!((evRaw (partsOf (linesOf s)[i]).1).2 && eventOk (evRaw (partsOf (linesOf s)[i]).1).1) || decide (out.length = 100)) = false) : RG s (i + 1) (out ++ [(evRaw (partsOf (linesOf s)[i]).1).1]) calm := by
  simp only [Bool.or_eq_false_iff, Bool.not_eq_false', Bool.and_eq_true, decide_eq_false_iff_not] at he
  refine ⟨hi, ?_, by have := h.len; rw [List.length_append, List.length_singleton]; have := he.2; omega⟩
  rw [← h.go, List.drop_eq_getElem_cons hi, readGo, if_neg (by rw [hm]; decide), if_neg (by rw [hb]; decide), if_neg hc, evOf_raw, if_pos he.1]
  dsimp only
  rw [if_neg he.2]
end
theorem zev : (∀ (f0 : Nat → V) (fs : Nat → Nat → Nat → List (List V) → V) (fp : Nat → Nat → Nat → List V → V) (xs : List Event), V.travLL f0 fs fp (xs.map cEvent) = xs.map cEvent) ∧ (∀ (xs : List Event), V.labelsLL (xs.map cEvent) = []) ∧ (∀ (xs : List Event), V.datLL (xs.map cEvent) = true) ∧ (∀ (n : Nat) (xs : List Event), V.tagLL n (xs.map cEvent) = xs.map cEvent) ∧ (∀ (xs : List Event), V.cntLL (xs.map cEvent) = 0) :=
  ⟨fun f0 fs fp xs => travLL_map (fun _ => rfl) xs, fun xs => labels_map (fun _ => rfl) xs, fun xs => dat_map (fun _ => rfl) xs, fun n xs => tag_map (fun _ _ => rfl) xs n, fun xs => cnt_map (fun _ => rfl) xs⟩
theorem calm_one {p : List Str} (h : p.length = 1) (h0 : 0 < p.length) : decide (p[0] = wCalm) = decide (p = [wCalm]) := by
  match p, h with
  | [a], _ => rw [decide_eq_decide]; simp
theorem calm_not {p : List Str} (h : ¬ p.length = 1) : decide (p = [wCalm]) = false := decide_eq_false fun e => h (by rw [e]; rfl)
abbrev vRS (r : List Event × Bool × Int) : V := .tup [.sl 0 4 0 (r.1.map cEvent), .bool r.2.1, .int .i64 r.2.2]
end Go.Proofs.YtliiphpbfambcaaGreatDoor.K

/- Plain: events drawn. -/
namespace Go.Proofs.YtliiphpbfambcaaGreatDoor.K
open Go Go.RowKit
set_option linter.unusedVariables false
set_option linter.unusedSimpArgs false
def EvS (l : List Event) : Prop := ∀ e ∈ l, e.text.length ≤ 100
theorem EvS.nil : EvS [] := fun e h => by cases h
theorem EvS.app {l m : List Event} (h : EvS l) (h2 : EvS m) : EvS (l ++ m) := fun e he => (List.mem_append.1 he).elim (h e) (h2 e)
theorem EvS.one {e : Event} (h : e.text.length ≤ 100) : EvS [e] := fun x hx => by rw [List.mem_singleton] at hx; rw [hx]; exact h
theorem EvS.two {e f : Event} (h : e.text.length ≤ 100) (h2 : f.text.length ≤ 100) : EvS [e, f] := fun x hx => by
  rcases List.mem_cons.1 hx with rfl | hx
  · exact h
  · exact EvS.one h2 x hx
theorem EvS.get {l : List Event} (h : EvS l) {i : Nat} (hi : i < l.length) : l[i].text.length ≤ 100 := h _ (List.getElem_mem hi)
abbrev lines15 : List Str := [[97, 32, 76, 79, 71, 73, 78, 32, 97, 110, 110, 32, 120], [98, 32, 83, 69, 76, 69, 67, 84, 32, 105, 110, 98, 111, 120], [98, 32, 83, 69, 76, 69, 67, 84, 32, 119, 111, 114, 107], [99, 32, 67, 82, 69, 65, 84, 69, 32, 105, 110, 98, 111, 120], [99, 32, 67, 82, 69, 65, 84, 69, 32, 110, 101, 119], [100, 32, 65, 80, 80, 69, 78, 68, 32, 105, 110, 98, 111, 120, 32, 34, 104, 105, 32, 116, 104, 101, 114, 101, 34], [100, 32, 65, 80, 80, 69, 78, 68, 32, 105, 110, 98, 111, 120, 32, 123, 51, 125, 13, 10, 97, 98, 99], [101, 32, 70, 69, 84, 67, 72, 32, 49, 58, 42], [101, 32, 70, 69, 84, 67, 72, 32, 50, 44, 49], [102, 32, 83, 84, 79, 82, 69, 32, 49, 32, 52], [102, 32, 83, 84, 79, 82, 69, 32, 49, 58, 42, 32, 49], [103, 32, 69, 88, 80, 85, 78, 71, 69], [104, 32, 78, 79, 79, 80], [105, 32, 76, 73, 83, 84], [106, 32, 83, 84, 65, 84, 85, 83, 32, 105, 110, 98, 111, 120], [107, 32, 82, 69, 78, 65, 77, 69, 32, 105, 110, 98, 111, 120, 32, 111, 108, 100], [108, 32, 68, 69, 76, 69, 84, 69, 32, 119, 111, 114, 107], [109, 32, 76, 79, 71, 79, 85, 84], [110, 32, 87, 72, 65, 84], [111, 32, 70, 69, 84, 67, 72, 32, 120], [112, 32, 83, 84, 79, 82, 69, 32, 49, 32, 57], [113], [34, 114, 34, 32, 78, 79, 79, 80]]
theorem line15_len (c : Cur) : (pickS c lines15).1.length ≤ 30 := (show ∀ z ∈ lines15, z.length ≤ 30 by decide) _ (pickS_mem (by decide))
theorem getS9 {l : List Str} {w : Nat} (h : w < l.length) : (l.map cS)[w]? = some [V.str (l.getD w [])] := by
  rw [List.getElem?_map, List.getElem?_eq_getElem h, List.getD_eq_getElem?_getD, List.getElem?_eq_getElem h]; rfl
theorem getD_len {l : List Str} {m : Nat} (h : ∀ z ∈ l, z.length ≤ m) (w : Nat) : (l.getD w []).length ≤ m := by
  rw [List.getD_eq_getElem?_getD]
  by_cases hw : w < l.length
  · rw [List.getElem?_eq_getElem hw]; exact h _ (List.getElem_mem hw)
  · rw [List.getElem?_eq_none (by omega)]; exact Nat.zero_le _
abbrev loginT : Str := [97, 32, 76, 79, 71, 73, 78, 32, 97, 110, 110, 32, 120, 13, 10, 98, 32, 67, 82, 69, 65, 84, 69, 32, 105, 110, 98, 111, 120, 13, 10, 99, 32, 83, 69, 76, 69, 67, 84, 32, 105, 110, 98, 111, 120, 13, 10]
abbrev blanksL : List Str := [[10], [32, 32, 10], [35, 32, 97, 32, 119, 111, 114, 100, 10], [32, 32, 35, 32, 98, 10]]
abbrev wrongL : List Str := [[115, 97, 121], [115, 116, 101, 112, 32, 120, 32, 49], [115, 116, 101, 112, 32, 49], [119, 104, 97, 116], [109, 101, 101, 116, 32, 49], [7], [99, 97, 108, 109], [102, 97, 108, 108, 32, 49], [115, 112, 111, 105, 108, 32, 49]]
abbrev oddL : List Str := [[], [35], [99, 97, 108, 109, 10], [99, 97, 108, 109], [99, 97, 108, 109, 10, 109, 101, 101, 116, 10], [109, 101, 101, 116], [115, 97, 121, 32, 48], [120]]
theorem quo4 {n : Nat} (h : n ≤ 4611686018427387904) : IntKind.i64.wrap (((n : Int)).tdiv 4) = ((n / 4 : Nat) : Int) := by rw [Int.tdiv_eq_ediv_of_nonneg (by omega), IntKind.wrap_i64]; omega
theorem most16 {n : Nat} (h : n ≤ 4611686018427387904) : IntKind.i64.wrap (16 + ((n / 4 : Nat) : Int)) = ((16 + n / 4 : Nat) : Int) := by rw [IntKind.wrap_i64]; omega
end Go.Proofs.YtliiphpbfambcaaGreatDoor.K

/- Walks: draws. Printed by w2.py. -/
namespace Go.Proofs.YtliiphpbfambcaaGreatDoor.K
open Go Go.RowKit
set_option linter.unusedVariables false
set_option linter.unusedSimpArgs false
set_option maxHeartbeats 4000000
set_option maxRecDepth 20000
theorem w_laws_big (code : Str) : Weak Tryz.prog 4 [.sl 0 1 0 (code.map cB)] (.bool (decide ((code.length : Int) > 1048576))) := by
 refine Weak.enter tab_ok Tryz.func4 rfl (.inr (by simp [V.labelsL, V.labels, zz])) (t := [.sl 0 1 0 (code.map cB), .any, .any, .any, .any, .any]) rfl ?_
 refine OQ ?_
 refine EV ?_
 refine ON ?_
 refine OQ ?_
 iterate 4 (refine EV ?_)
 refine ON ?_
 refine Ok.ret ?_
 with_reducible repeat (first | refine thenQ_ret ?_ | refine blockQ_ret ?_)
 refine RT ?_
 rfl
theorem c_spec_l01New (code : Str) (hc : code.length ≤ 4611686018427387904) {h : List V} {n : Nat}  : OkCall Tryz.prog 22 [.sl 0 1 0 (code.map cB)] h n (fun r h1 n1 => r = .ptr n 0 0 (cCur (curNew code)) ∧ h1 = h.map id ∧ n1 = n + 1) := by
 refine OkCall.enter' tab_ok Tryz.func22 rfl (t := [.sl 0 1 0 (code.map cB), .any, .any, .any, .any, .any, .any, .any, .any, .any, .any, .any, .any, .any, .any, .any, .any, .any, .any, .any, .any, .any, .any, .any, .any, .any, .any, .any, .any, .any, .any, .any]) rfl ?_
 refine OQ ?_
 refine EV ?_
 refine ON ?_
 refine OQ ?_
 iterate 4 (refine EV ?_)
 refine ON ?_
 refine Ok.seq ?_
 refine OQ ?_
 refine EV ?_
 refine ON ?_
 refine Ok.block ?_
 refine Ok.loopW (τ := Nat × Int) (fun x => [(3, .int .i64 x.2), (4, .int .i64 (x.1 : Int))]) [8, 9, 10, 11, 12, 13, 14, 15, 16, 17, 18, 19, 20, 21, 22, 23, 24, 25, 26, 27] (fun x => by simp only [kover] <;> rfl) (fun x => x.1 ≤ code.length ∧ x.1 ≤ 4000 ∧ hashC (4000 - x.1) (code.drop x.1) x.2 = hashC 4000 code (IntKind.i64.wrap (77201 + (code.length : Int)))) (fun x => 4000 - x.1) (0, IntKind.i64.wrap (77201 + (code.length : Int))) (by (repeat (first | exact trivial | refine leC ?_ | refine leK ?_ ?_)) <;> first | (exact le_rfl' _) | exact le_rfl' _) (⟨Nat.zero_le _, Nat.zero_le _, rfl⟩) ?_
 rintro ⟨i, v⟩ ⟨h1, h2, h3⟩
 have h1 : i ≤ code.length := h1
 have h2 : i ≤ 4000 := h2
 have h3 : hashC (4000 - i) (code.drop i) v = hashC 4000 code (IntKind.i64.wrap (77201 + (code.length : Int))) := h3
 refine Ok.seq ?_
 refine Ok.seqC [(15, .bool (decide (i < code.length ∧ i < 4000)))] [8, 9, 10, 11, 12, 13, 14] (by simp only [kover] <;> rfl) ?_ ?_
 ·
  refine Ok.region ?_
  iterate 5 (refine EV ?_)
  refine OP (d := 12) (fun hg3_4 => ?_) (fun hg3_4 => ?_)
  ·
   try simp only [bsimp] at hg3_4
   refine OX ?_
   refine OO ?_
   iterate 2 (refine EV ?_)
   refine ON ?_
   refine ⟨rfl, ?_, rfl, rfl⟩
   (repeat (first | exact trivial | refine leC ?_ | refine leK ?_ ?_)) <;> first | (refine .inl (congrArg V.bool ?_); first | exact decide_eq_decide.2 (by clear h3; omega) | exact (decide_eq_false (by clear h3; omega)).symm) | exact le_rfl' _
  try simp only [bsimp] at hg3_4
  refine OU ?_
  refine OU ?_
  refine EV ?_
  refine ON ?_
  refine ⟨rfl, ?_, rfl, rfl⟩
  (repeat (first | exact trivial | refine leC ?_ | refine leK ?_ ?_)) <;> first | (refine .inl (congrArg V.bool ?_); first | exact decide_eq_decide.2 (by clear h3; omega) | exact (decide_eq_false (by clear h3; omega)).symm) | exact le_rfl' _
 refine OC (fun hb3 => ?_) (fun hb3 => ?_)
 ·
  try simp only [bsimp] at hb3
  obtain ⟨hi, hi4⟩ : i < code.length ∧ i < 4000 := hb3
  have hd : code.drop i = code[i] :: code.drop (i + 1) := List.drop_eq_getElem_cons hi
  rw [hd, show 4000 - i = (4000 - (i + 1)) + 1 by omega] at h3
  refine Ok.skip ?_
  refine Ok.seq ?_
  refine Ok.block ?_
  refine Ok.region ?_
  iterate 4 (refine EV ?_)
  refine OkOps.ev tab_ok rfl (ev_idx_map (by simp only [kE, kT, kL, kC] <;> rfl) (by simp only [kE, kT, kL, kC] <;> rfl) (by omega) (by simp only [kE, kT, kL, kC] <;> rfl)) (by simp only [kP] <;> rfl) ?_
  refine EV ?_
  refine OkOps.ev tab_ok rfl (by simp only [kE, kT, kL, kC, four_b] <;> rfl) (by simp only [kP] <;> rfl) ?_
  iterate 4 (refine EV ?_)
  refine ON ?_
  refine Ok.region ?_
  iterate 3 (refine EV ?_)
  refine ON ?_
  refine ⟨(i + 1, _), ?_, rfl, rfl, ⟨hi, by omega, h3⟩, by show 4000 - (i + 1) < 4000 - i; omega⟩
  (repeat (first | exact trivial | refine leC ?_ | refine leK ?_ ?_)) <;> first | (first | exact le_rfl' _ | (rw [wrap_add_one (by omega)]; exact le_rfl' _)) | exact le_rfl' _
 try simp only [bsimp] at hb3
 have hn : ¬ (i < code.length ∧ i < 4000) := hb3
 have hv : v = hashC 4000 code (IntKind.i64.wrap (77201 + (code.length : Int))) := by rw [← h3]; by_cases hz : i = 4000; (subst hz; rfl); (rw [List.drop_eq_nil_of_le (by omega)]; cases 4000 - i <;> rfl)
 subst hv
 refine Ok.exit ?_
 refine OQ ?_
 iterate 2 (refine EV ?_)
 refine OkOps.ev tab_ok rfl (by simp [ev1, fillV, kE, kT, kL] <;> first | rfl | exact ⟨rfl, rfl⟩) (by simp only [kP] <;> rfl) ?_
 iterate 2 (refine EV ?_)
 refine ON ?_
 refine Ok.ret ?_
 with_reducible repeat (first | refine thenQ_ret ?_ | refine blockQ_ret ?_)
 refine RT ?_
 exact ⟨rfl, (List.map_id h).symm, rfl⟩
theorem c_spec_l01Byte (c : Cur) (L : Nat) (hb : c.b.length ≤ 4611686018427387904) {h : List V} {n : Nat}  : OkCall Tryz.prog 44 [.ptr (L + 1) 0 0 (cCur c)] h n (fun r h1 n1 => r = .int .i64 ((curByte c).1 : Int) ∧ h1 = V.updL (L + 1) 0 (cCur (curByte c).2) h ∧ n1 = n) := by
 refine OkCall.enter' tab_ok Tryz.func44 rfl (t := [.ptr (L + 1) 0 0 (cCur c), .any, .any, .any, .any, .any, .any, .any, .any, .any, .any, .any, .any, .any, .any, .any, .any, .any, .any, .any, .any, .any, .any, .any, .any, .any, .any, .any, .any, .any, .any, .any, .any, .any, .any, .any, .any, .any, .any, .any, .any, .any, .any, .any, .any, .any, .any, .any, .any, .any, .any, .any, .any, .any, .any, .any, .any, .any]) rfl ?_
 refine OQ ?_
 refine EV ?_
 refine ON ?_
 refine OQ ?_
 iterate 9 (refine EV ?_)
 refine OkOps.storeE tab_ok rfl rfl (by simp only [kE, kT, kL, kC] <;> rfl) ⟨_, _, by simp only [kE]; rfl⟩ (by first | (simp [V.labelsL, V.labelsLL, V.labels, zz]; done) | (simp [-List.map_map, -List.map_set, -List.map_drop, -List.map_take, -List.map_tail, -List.drop_one, V.labelsL, V.labelsLL, V.labels, zz]; done)) (by simp only [eq_self, V.updL, V.travL, V.travLL, V.trav, updS, updP, and_self, true_and, and_true, false_and, and_false, Nat.reduceEqDiff, Nat.reduceSub, Nat.le_refl, Nat.zero_le, ↓reduceIte, if_true, if_false, kP, zz] <;> rfl) (rfl) ?_
 refine ON ?_
 refine Ok.seq ?_
 refine Ok.drawn 13 58 [] (by kernel_rfl) (by kernel_rfl) rfl ?_
 iterate 11 (refine SV ?_)
 refine SOps.ev tab_ok rfl (by simp only [kE, kT, kL, kC, and255_m] <;> rfl) (by simp only [kP] <;> rfl) ?_
 refine SV ?_
 refine SOps.nil ?_
 refine TOps.nil ?_
 refine Ok.seq ?_
 refine Ok.seq ?_
 refine Ok.drawn 10 58 [] (by kernel_rfl) (by kernel_rfl) rfl ?_
 iterate 10 (refine SV ?_)
 refine SOps.nil ?_
 refine TOps.nil ?_
 refine OC (fun hb3 => ?_) (fun hb3 => ?_)
 ·
  try simp only [bsimp] at hb3
  have hi : c.i < c.b.length := by omega
  rw [curByte_in hi]
  refine Ok.seq ?_
  refine Ok.drawn 14 58 [] (by kernel_rfl) (by kernel_rfl) rfl ?_
  iterate 9 (refine SV ?_)
  refine SOps.ev tab_ok rfl (ev_idx_map (by simp only [kE, kT, kL, kC] <;> rfl) (by simp only [kE, kT, kL, kC] <;> rfl) (hi) (by simp only [kE, kT, kL, kC] <;> rfl)) (by simp only [kP] <;> rfl) ?_
  refine SV ?_
  refine SOps.ev tab_ok rfl (by simp only [kE, kT, kL, kC, four_b] <;> rfl) (by simp only [kP] <;> rfl) ?_
  refine SV ?_
  refine SOps.ev tab_ok rfl (by simp only [kE, kT, kL, kC, and255_m] <;> rfl) (by simp only [kP] <;> rfl) ?_
  refine SOps.nil ?_
  refine TV ?_
  refine TOps.nil ?_
  refine Ok.region ?_
  iterate 5 (refine EV ?_)
  refine OkOps.ev tab_ok rfl (by simp only [kE, kT, kL, kC, wrap_add_one (show c.i + 1 ≤ 9223372036854775807 by omega)] <;> rfl) (by simp only [kP] <;> rfl) ?_
  iterate 2 (refine EV ?_)
  refine OkOps.storeE tab_ok rfl rfl (by simp only [kE, kT, kL, kC] <;> rfl) ⟨_, _, by simp only [kE]; rfl⟩ (by first | (simp [V.labelsL, V.labelsLL, V.labels, zz]; done) | (simp [-List.map_map, -List.map_set, -List.map_drop, -List.map_take, -List.map_tail, -List.drop_one, V.labelsL, V.labelsLL, V.labels, zz]; done)) (by simp only [eq_self, V.updL, V.travL, V.travLL, V.trav, updS, updP, and_self, true_and, and_true, false_and, and_false, Nat.reduceEqDiff, Nat.reduceSub, Nat.le_refl, Nat.zero_le, ↓reduceIte, if_true, if_false, kP, zz] <;> rfl) (rfl) ?_
  refine ON ?_
  refine OQ ?_
  iterate 2 (refine EV ?_)
  refine ON ?_
  refine Ok.ret ?_
  with_reducible repeat (first | refine thenQ_ret ?_ | refine blockQ_ret ?_)
  refine RT ?_
  exact ⟨rfl, by first | rfl | (rw [upd_twice (by simp [V.travL, V.trav, updS, zz])]; rfl), rfl⟩
 try simp only [bsimp] at hb3
 have hi : ¬ c.i < c.b.length := by omega
 rw [curByte_out hi]
 refine Ok.skip ?_
 refine OQ ?_
 iterate 2 (refine EV ?_)
 refine ON ?_
 refine Ok.ret ?_
 with_reducible repeat (first | refine thenQ_ret ?_ | refine blockQ_ret ?_)
 refine RT ?_
 exact ⟨rfl, by first | rfl | (rw [upd_twice (by simp [V.travL, V.trav, updS, zz])]; rfl), rfl⟩
theorem c_spec_l01Below (c : Cur) (m : Nat) (L : Nat) (hb : c.b.length ≤ 4611686018427387904) (hm : 0 < m) {h : List V} {n : Nat}  : OkCall Tryz.prog 23 [.ptr (L + 1) 0 0 (cCur c), .int .i64 (m : Int)] h n (fun r h1 n1 => r = .int .i64 ((curBelow c m).1 : Int) ∧ h1 = V.updL (L + 1) 0 (cCur (curBelow c m).2) h ∧ n1 = n) := by
 refine OkCall.enter' tab_ok Tryz.func23 rfl (t := [.ptr (L + 1) 0 0 (cCur c), .int .i64 (m : Int), .any, .any, .any, .any, .any, .any, .any, .any, .any, .any, .any, .any, .any, .any, .any, .any, .any, .any, .any, .any, .any, .any, .any, .any, .any, .any, .any, .any, .any, .any, .any, .any, .any, .any, .any]) rfl ?_
 refine OQ ?_
 refine EV ?_
 refine ON ?_
 refine Ok.seq ?_
 refine OQ ?_
 iterate 2 (refine EV ?_)
 refine ON ?_
 refine OC (fun hb1 => ?_) (fun hb1 => ?_)
 ·
  try simp only [bsimp] at hb1
  exfalso; omega
 try simp only [bsimp] at hb1
 have h0 : ¬ m = 0 := by omega
 have hm0 : (((m : Nat) : Int) = 0) = False := eq_false (by omega)
 refine Ok.skip ?_
 refine Ok.seq ?_
 refine OQ ?_
 iterate 2 (refine EV ?_)
 refine ON ?_
 refine OC (fun hb3 => ?_) (fun hb3 => ?_)
 ·
  try simp only [bsimp] at hb3
  have h2 : m ≤ 256 := by omega
  rw [show curBelow c m = ((curByte c).1 % m, (curByte c).2) from (if_neg h0).trans (if_pos h2)]
  refine OQ ?_
  refine EV ?_
  refine OkOps.upd rfl rfl (by simp only [kE, kT, kL, kC] <;> rfl) (by simp only [kE, kT, kL, kC] <;> rfl) cl44 (fun h => c_spec_l01Byte c L hb) (by simp only [eq_self, V.updL, V.travL, V.travLL, V.trav, updS, updP, and_self, true_and, and_true, false_and, and_false, Nat.reduceEqDiff, Nat.reduceSub, Nat.le_refl, Nat.zero_le, ↓reduceIte, if_true, if_false, kP, zz] <;> rfl) (rfl) ?_
  refine EV ?_
  refine OkOps.ev tab_ok rfl (by simp only [kE, kT, kL, kC, hm0, if_false, tmod_nat] <;> rfl) (by simp only [kP] <;> rfl) ?_
  refine EV ?_
  refine ON ?_
  refine Ok.ret ?_
  with_reducible repeat (first | refine thenQ_ret ?_ | refine blockQ_ret ?_)
  refine RT ?_
  exact ⟨rfl, rfl, rfl⟩
 try simp only [bsimp] at hb3
 have h2 : ¬ m ≤ 256 := by omega
 rw [show curBelow c m = _ from (if_neg h0).trans (if_neg h2)]
 have q1 := curByte_le c
 have q2 := curByte_le (curByte c).2
 have q3 := curByte_le (curByte (curByte c).2).2
 have q4 := curByte_le (curByte (curByte (curByte c).2).2).2
 refine Ok.skip ?_
 refine OQ ?_
 refine EV ?_
 refine OkOps.upd rfl rfl (by simp only [kE, kT, kL, kC] <;> rfl) (by simp only [kE, kT, kL, kC] <;> rfl) cl44 (fun h => c_spec_l01Byte c L hb) (by simp only [eq_self, V.updL, V.travL, V.travLL, V.trav, updS, updP, and_self, true_and, and_true, false_and, and_false, Nat.reduceEqDiff, Nat.reduceSub, Nat.le_refl, Nat.zero_le, ↓reduceIte, if_true, if_false, kP, zz] <;> rfl) (rfl) ?_
 refine EV ?_
 refine ON ?_
 refine OQ ?_
 refine EV ?_
 refine OkOps.upd rfl rfl (by simp only [kE, kT, kL, kC] <;> rfl) (by simp only [kE, kT, kL, kC] <;> rfl) cl44 (fun h => c_spec_l01Byte (curByte c).2 L (by rw [curByte_b]; exact hb)) (by simp only [eq_self, V.updL, V.travL, V.travLL, V.trav, updS, updP, and_self, true_and, and_true, false_and, and_false, Nat.reduceEqDiff, Nat.reduceSub, Nat.le_refl, Nat.zero_le, ↓reduceIte, if_true, if_false, kP, zz] <;> rfl) (rfl) ?_
 refine EV ?_
 refine ON ?_
 refine OQ ?_
 refine EV ?_
 refine OkOps.upd rfl rfl (by simp only [kE, kT, kL, kC] <;> rfl) (by simp only [kE, kT, kL, kC] <;> rfl) cl44 (fun h => c_spec_l01Byte (curByte (curByte c).2).2 L (by simp only [curByte_b]; exact hb)) (by simp only [eq_self, V.updL, V.travL, V.travLL, V.trav, updS, updP, and_self, true_and, and_true, false_and, and_false, Nat.reduceEqDiff, Nat.reduceSub, Nat.le_refl, Nat.zero_le, ↓reduceIte, if_true, if_false, kP, zz] <;> rfl) (rfl) ?_
 refine EV ?_
 refine ON ?_
 refine OQ ?_
 refine EV ?_
 refine OkOps.upd rfl rfl (by simp only [kE, kT, kL, kC] <;> rfl) (by simp only [kE, kT, kL, kC] <;> rfl) cl44 (fun h => c_spec_l01Byte (curByte (curByte (curByte c).2).2).2 L (by simp only [curByte_b]; exact hb)) (by simp only [eq_self, V.updL, V.travL, V.travLL, V.trav, updS, updP, and_self, true_and, and_true, false_and, and_false, Nat.reduceEqDiff, Nat.reduceSub, Nat.le_refl, Nat.zero_le, ↓reduceIte, if_true, if_false, kP, zz] <;> rfl) (rfl) ?_
 refine EV ?_
 refine ON ?_
 refine OQ ?_
 refine EV ?_
 refine OkOps.ev tab_ok rfl (by simp only [kE, kT, kL, kC, mul24 q1] <;> rfl) (by simp only [kP] <;> rfl) ?_
 refine EV ?_
 refine OkOps.ev tab_ok rfl (by simp only [kE, kT, kL, kC, mul16 q2] <;> rfl) (by simp only [kP] <;> rfl) ?_
 refine OkOps.ev tab_ok rfl (by simp only [kE, kT, kL, kC, wrap_add_nat (show (curByte c).1 * 16777216 + (curByte (curByte c).2).1 * 65536 ≤ 9223372036854775807 by omega)] <;> rfl) (by simp only [kP] <;> rfl) ?_
 refine EV ?_
 refine OkOps.ev tab_ok rfl (by simp only [kE, kT, kL, kC, mul8 q3] <;> rfl) (by simp only [kP] <;> rfl) ?_
 refine OkOps.ev tab_ok rfl (by simp only [kE, kT, kL, kC, wrap_add_nat (show (curByte c).1 * 16777216 + (curByte (curByte c).2).1 * 65536 + (curByte (curByte (curByte c).2).2).1 * 256 ≤ 9223372036854775807 by omega)] <;> rfl) (by simp only [kP] <;> rfl) ?_
 refine EV ?_
 refine OkOps.ev tab_ok rfl (by simp only [kE, kT, kL, kC, wrap_add_nat (show (curByte c).1 * 16777216 + (curByte (curByte c).2).1 * 65536 + (curByte (curByte (curByte c).2).2).1 * 256 + (curByte (curByte (curByte (curByte c).2).2).2).1 ≤ 9223372036854775807 by omega)] <;> rfl) (by simp only [kP] <;> rfl) ?_
 refine EV ?_
 refine OkOps.ev tab_ok rfl (by simp only [kE, kT, kL, kC, hm0, if_false, tmod_nat] <;> rfl) (by simp only [kP] <;> rfl) ?_
 refine EV ?_
 refine ON ?_
 refine Ok.ret ?_
 with_reducible repeat (first | refine thenQ_ret ?_ | refine blockQ_ret ?_)
 refine RT ?_
 exact ⟨rfl, by rw [upd_twice (by simp [V.travL, V.trav, updS, zz]), upd_twice (by simp [V.travL, V.trav, updS, zz]), upd_twice (by simp [V.travL, V.trav, updS, zz])], rfl⟩
theorem c_spec_l01Pick (c : Cur) (xs : List Str) (L M : Nat) (hb : c.b.length ≤ 4611686018427387904) (hx : 0 < xs.length) (hM : ¬ M = L + 1) {h : List V} {n : Nat}  : OkCall Tryz.prog 64 [.ptr (L + 1) 0 0 (cCur c), .sl M 1 0 (xs.map cS)] h n (fun r h1 n1 => r = .str (pickS c xs).1 ∧ h1 = V.updL (L + 1) 0 (cCur (pickS c xs).2) h ∧ n1 = n) := by
 refine OkCall.enter' tab_ok Tryz.func64 rfl (t := [.ptr (L + 1) 0 0 (cCur c), .sl M 1 0 (xs.map cS), .any, .any, .any, .any, .any, .any, .any, .any, .any, .any]) rfl ?_
 refine OQ ?_
 refine EV ?_
 refine ON ?_
 refine OQ ?_
 iterate 4 (refine EV ?_)
 refine OkOps.upd rfl rfl (by simp only [kE, kT, kL, kC] <;> rfl) (by simp only [kE, kT, kL, kC] <;> rfl) cl23 (fun h => c_spec_l01Below c xs.length L hb hx) (by simp only [eq_self, V.updL, V.travL, V.travLL, V.trav, updS, updP, and_self, true_and, and_true, false_and, and_false, Nat.reduceEqDiff, Nat.reduceSub, Nat.le_refl, Nat.zero_le, ↓reduceIte, if_true, if_false, kP, zz, hM] <;> rfl) (rfl) ?_
 refine OkOps.ev tab_ok rfl (ev_idx (by simp only [kE, kT, kL, kC] <;> rfl) (by simp only [kE, kT, kL, kC] <;> rfl) (by rw [List.getElem?_map, pickS_get hx]; rfl) (by simp only [kE, kT, kL, kC] <;> rfl)) (by simp only [kP] <;> rfl) ?_
 iterate 2 (refine EV ?_)
 refine ON ?_
 refine Ok.ret ?_
 with_reducible repeat (first | refine thenQ_ret ?_ | refine blockQ_ret ?_)
 refine RT ?_
 exact ⟨rfl, rfl, rfl⟩
theorem c_spec_l01PickInt (c : Cur) (xs : List Int) (L M : Nat) (hb : c.b.length ≤ 4611686018427387904) (hx : 0 < xs.length) (hM : ¬ M = L + 1) {h : List V} {n : Nat}  : OkCall Tryz.prog 47 [.ptr (L + 1) 0 0 (cCur c), .sl M 1 0 (xs.map cZ)] h n (fun r h1 n1 => r = .int .i64 (pickI c xs).1 ∧ h1 = V.updL (L + 1) 0 (cCur (pickI c xs).2) h ∧ n1 = n) := by
 refine OkCall.enter' tab_ok Tryz.func47 rfl (t := [.ptr (L + 1) 0 0 (cCur c), .sl M 1 0 (xs.map cZ), .any, .any, .any, .any, .any, .any, .any, .any, .any, .any]) rfl ?_
 refine OQ ?_
 refine EV ?_
 refine ON ?_
 refine OQ ?_
 iterate 4 (refine EV ?_)
 refine OkOps.upd rfl rfl (by simp only [kE, kT, kL, kC] <;> rfl) (by simp only [kE, kT, kL, kC] <;> rfl) cl23 (fun h => c_spec_l01Below c xs.length L hb hx) (by simp only [eq_self, V.updL, V.travL, V.travLL, V.trav, updS, updP, and_self, true_and, and_true, false_and, and_false, Nat.reduceEqDiff, Nat.reduceSub, Nat.le_refl, Nat.zero_le, ↓reduceIte, if_true, if_false, kP, zz, hM] <;> rfl) (rfl) ?_
 refine OkOps.ev tab_ok rfl (ev_idx (by simp only [kE, kT, kL, kC] <;> rfl) (by simp only [kE, kT, kL, kC] <;> rfl) (by rw [List.getElem?_map, pickI_get hx]; rfl) (by simp only [kE, kT, kL, kC] <;> rfl)) (by simp only [kP] <;> rfl) ?_
 iterate 2 (refine EV ?_)
 refine ON ?_
 refine Ok.ret ?_
 with_reducible repeat (first | refine thenQ_ret ?_ | refine blockQ_ret ?_)
 refine RT ?_
 exact ⟨rfl, rfl, rfl⟩
theorem c_spec_l01Once (c : Cur) (m : Nat) (L : Nat) (hb : c.b.length ≤ 4611686018427387904) (hm : 0 < m) {h : List V} {n : Nat}  : OkCall Tryz.prog 45 [.ptr (L + 1) 0 0 (cCur c), .int .i64 (m : Int)] h n (fun r h1 n1 => r = .bool (decide (((curBelow c m).1 : Int) = 0)) ∧ h1 = V.updL (L + 1) 0 (cCur (curBelow c m).2) h ∧ n1 = n) := by
 refine OkCall.enter' tab_ok Tryz.func45 rfl (t := [.ptr (L + 1) 0 0 (cCur c), .int .i64 (m : Int), .any, .any, .any, .any, .any, .any, .any]) rfl ?_
 refine OQ ?_
 refine EV ?_
 refine ON ?_
 refine OQ ?_
 iterate 2 (refine EV ?_)
 refine OkOps.upd rfl rfl (by simp only [kE, kT, kL, kC] <;> rfl) (by simp only [kE, kT, kL, kC] <;> rfl) cl23 (fun h => c_spec_l01Below c m L hb hm) (by simp only [eq_self, V.updL, V.travL, V.travLL, V.trav, updS, updP, and_self, true_and, and_true, false_and, and_false, Nat.reduceEqDiff, Nat.reduceSub, Nat.le_refl, Nat.zero_le, ↓reduceIte, if_true, if_false, kP, zz] <;> rfl) (rfl) ?_
 iterate 2 (refine EV ?_)
 refine ON ?_
 refine Ok.ret ?_
 with_reducible repeat (first | refine thenQ_ret ?_ | refine blockQ_ret ?_)
 refine RT ?_
 exact ⟨rfl, rfl, rfl⟩
theorem w_spec_l01Long (n : Nat) (b : UInt8) (hn : n ≤ 4000) : Weak Tryz.prog 26 [.int .i64 (n : Int), .int .u8 (b.toNat : Int)] (.str (longT n b)) := by
 refine Weak.enter tab_ok Tryz.func26 rfl (.inr (by simp [V.labelsL, V.labels, zz])) (t := [.int .i64 (n : Int), .int .u8 (b.toNat : Int), .any, .any, .any, .any, .any, .any, .any, .any, .any, .any, .any, .any, .any, .any, .any, .any, .any, .any]) rfl ?_
 refine OQ ?_
 refine EV ?_
 refine ON ?_
 refine OQ ?_
 refine EV ?_
 refine OkOps.S' rfl (ok_makeSlice (a := n) (b := n) tab_ok (by simp only [kT] <;> rfl) (by simp only [kT] <;> rfl) (by decide) rfl rfl (by simp only [kE, kL] <;> rfl) (by simp only [kE, kL] <;> rfl) (by omega) (by omega) (by omega) (by show ((1 : Nat) : Int) * _ ≤ _; omega)) (by simp only [Nat.reduceAdd] <;> rfl) (by simp only [kP, Int.toNat_natCast] <;> rfl) ?_
 refine EV ?_
 refine ON ?_
 refine Ok.seq ?_
 refine OQ ?_
 refine EV ?_
 refine ON ?_
 refine Ok.block ?_
 refine Ok.bump (n' := 2) (by omega) ?_
 refine Ok.loopWZ (τ := Nat) (fun x => [(5, .sl 1 1 0 ((List.replicate x b ++ List.replicate (n - x) 0).map cB)), (6, .int .i64 (x : Int)), (8, .any)]) [9, 10, 11, 12, 13, 14, 15, 16, 17] (fun x => by simp only [kover] <;> rfl) (fun x => x ≤ n) (fun x => n - x) 0 (by omega) (by (repeat (first | exact trivial | refine leC ?_ | refine leK ?_ ?_)) <;> first | (first | exact le_rfl' _ | (refine le_eqm (congrArg (V.sl 1 1 0) ?_); rw [List.replicate_zero, List.nil_append, Nat.sub_zero, List.map_replicate]; rfl)) | exact le_rfl' _) (Nat.zero_le _) ?_
 rintro i h1
 refine Ok.seq ?_
 refine OQ ?_
 iterate 3 (refine EV ?_)
 refine ON ?_
 refine OC (fun hb3 => ?_) (fun hb3 => ?_)
 ·
  try simp only [bsimp] at hb3
  have hi : i < n := by omega
  have hs := set_repB (b := b) (d := 0) hi
  refine Ok.skip ?_
  refine Ok.seq ?_
  refine Ok.block ?_
  refine Ok.region ?_
  iterate 3 (refine EV ?_)
  refine OkOps.ev tab_ok rfl (ev_idx_map (by simp only [kE, kT, kL, kC] <;> rfl) (by simp only [kE, kT, kL, kC] <;> rfl) (by simp; omega) (by simp only [kE, kT, kL, kC] <;> rfl)) (by simp only [kP] <;> rfl) ?_
  refine OkOps.storeE tab_ok rfl rfl (by simp only [kE, kT, kL, kC] <;> rfl) ⟨_, _, by simp only [kE]; rfl⟩ (by first | (simp [V.labelsL, V.labelsLL, V.labels, zz]; done) | (simp [-List.map_map, -List.map_set, -List.map_drop, -List.map_take, -List.map_tail, -List.drop_one, V.labelsL, V.labelsLL, V.labels, zz]; done)) (by simp only [eq_self, V.updL, V.travL, V.travLL, V.trav, updS, updP, and_self, true_and, and_true, false_and, and_false, Nat.reduceEqDiff, Nat.reduceSub, Nat.le_refl, Nat.zero_le, ↓reduceIte, if_true, if_false, kP, zz, hs, Nat.sub_zero] <;> rfl) (rfl) ?_
  refine ON ?_
  refine Ok.region ?_
  iterate 3 (refine EV ?_)
  refine ON ?_
  refine ⟨i + 1, ?_, rfl, by omega, by omega⟩
  simp only [V.renL, V.travL, V.travLL, V.trav, frz, zz, Nat.reduceLeDiff, ↓reduceIte]
  (repeat (first | exact trivial | refine leC ?_ | refine leK ?_ ?_)) <;> first | (first | (rw [wrap_succ (by omega)]; exact le_rfl' _) | exact le_rfl' _) | exact le_rfl' _
 try simp only [bsimp] at hb3
 obtain rfl : i = n := by omega
 rw [longT_end]
 have hll := longT_len i b
 refine Ok.exit ?_
 refine OQ ?_
 refine EV ?_
 refine OkOps.ev tab_ok rfl (ev_text' (by simp only [kE, kT, kL, kC] <;> rfl) rfl rfl rfl (by simp only [kby, Option.map_some, List.append_assoc, List.cons_append, List.nil_append] <;> rfl)) (by simp only [kP] <;> rfl) ?_
 refine EV ?_
 refine ON ?_
 refine Ok.ret ?_
 with_reducible repeat (first | refine thenQ_ret ?_ | refine blockQ_ret ?_)
 refine RT ?_
 rfl
end Go.Proofs.YtliiphpbfambcaaGreatDoor.K

/- Walks: events. Printed by w2.py. -/
namespace Go.Proofs.YtliiphpbfambcaaGreatDoor.K
open Go Go.RowKit
set_option linter.unusedVariables false
set_option linter.unusedSimpArgs false
set_option maxHeartbeats 4000000
set_option maxRecDepth 20000
theorem w_impl_within (x lo hi : Int) : Weak Tryz.prog 28 [.int .i64 x, .int .i64 lo, .int .i64 hi] (.bool (inR x lo hi)) := by
 refine Weak.enter tab_ok Tryz.func28 rfl (.inr (by simp [V.labelsL, V.labels, zz])) (t := [.int .i64 x, .int .i64 lo, .int .i64 hi, .any, .any, .any, .any, .any, .any, .any, .any, .any, .any, .any, .any]) rfl ?_
 refine OQ ?_
 refine EV ?_
 refine ON ?_
 refine OQ ?_
 iterate 4 (refine EV ?_)
 refine OP (d := 10) (fun hg1_3 => ?_) (fun hg1_3 => ?_)
 ·
  try simp only [bsimp] at hg1_3
  refine OX ?_
  refine OX ?_
  refine OO ?_
  iterate 3 (refine EV ?_)
  refine ON ?_
  refine Ok.ret ?_
  with_reducible repeat (first | refine thenQ_ret ?_ | refine blockQ_ret ?_)
  refine RT ?_
  first | (simp_all [inR, V.erase, V.trav, packV]; done) | (simp_all [inR, V.erase, V.trav, packV] <;> omega)
 try simp only [bsimp] at hg1_3
 iterate 3 (refine OU ?_)
 iterate 2 (refine EV ?_)
 refine ON ?_
 refine Ok.ret ?_
 with_reducible repeat (first | refine thenQ_ret ?_ | refine blockQ_ret ?_)
 refine RT ?_
 first | (simp_all [inR, V.erase, V.trav, packV]; done) | (simp_all [inR, V.erase, V.trav, packV] <;> omega)
theorem w_spec_l01In (x lo hi : Int) : Weak Tryz.prog 36 [.int .i64 x, .int .i64 lo, .int .i64 hi] (.bool (inR x lo hi)) := by
 refine Weak.enter tab_ok Tryz.func36 rfl (.inr (by simp [V.labelsL, V.labels, zz])) (t := [.int .i64 x, .int .i64 lo, .int .i64 hi, .any, .any, .any, .any, .any, .any, .any, .any, .any, .any, .any, .any]) rfl ?_
 refine OQ ?_
 refine EV ?_
 refine ON ?_
 refine OQ ?_
 iterate 4 (refine EV ?_)
 refine OP (d := 10) (fun hg1_3 => ?_) (fun hg1_3 => ?_)
 ·
  try simp only [bsimp] at hg1_3
  refine OX ?_
  refine OX ?_
  refine OO ?_
  iterate 3 (refine EV ?_)
  refine ON ?_
  refine Ok.ret ?_
  with_reducible repeat (first | refine thenQ_ret ?_ | refine blockQ_ret ?_)
  refine RT ?_
  first | (simp_all [inR, V.erase, V.trav, packV]; done) | (simp_all [inR, V.erase, V.trav, packV] <;> omega)
 try simp only [bsimp] at hg1_3
 iterate 3 (refine OU ?_)
 iterate 2 (refine EV ?_)
 refine ON ?_
 refine Ok.ret ?_
 with_reducible repeat (first | refine thenQ_ret ?_ | refine blockQ_ret ?_)
 refine RT ?_
 first | (simp_all [inR, V.erase, V.trav, packV]; done) | (simp_all [inR, V.erase, V.trav, packV] <;> omega)
theorem w_impl_EventOk (e : Event) : Weak Tryz.prog 31 [.agg (cEvent e)] (.bool (eventOk e)) := by
 refine Weak.enter tab_ok Tryz.func31 rfl (.inr (by simp [V.labelsL, V.labels, zz])) (t := [.agg (cEvent e), .any, .any, .any, .any, .any, .any, .any, .any, .any, .any, .any, .any, .any, .any, .any, .any, .any, .any, .any, .any, .any, .any, .any, .any, .any, .any, .any, .any, .any, .any, .any]) rfl ?_
 refine OQ ?_
 iterate 2 (refine EV ?_)
 refine ON ?_
 refine OQ ?_
 iterate 2 (refine EV ?_)
 refine OW cl28 (w_impl_within _ _ _) ?_
 refine EV ?_
 refine OP (d := 6) (fun hg1_3 => ?_) (fun hg1_3 => ?_)
 ·
  try simp only [bsimp] at hg1_3
  refine OX ?_
  refine OX ?_
  refine OO ?_
  iterate 3 (refine EV ?_)
  refine OP (d := 11) (fun hg1_8 => ?_) (fun hg1_8 => ?_)
  ·
   try simp only [bsimp] at hg1_8
   refine OX ?_
   refine OX ?_
   refine OO ?_
   iterate 3 (refine EV ?_)
   refine OP (d := 16) (fun hg1_13 => ?_) (fun hg1_13 => ?_)
   ·
    try simp only [bsimp] at hg1_13
    iterate 4 (refine OX ?_)
    refine OP (d := 20) (fun hg1_17 => ?_) (fun hg1_17 => ?_)
    ·
     try simp only [bsimp] at hg1_17
     iterate 9 (refine OU ?_)
     refine OO ?_
     iterate 3 (refine EV ?_)
     refine ON ?_
     refine Ok.ret ?_
     with_reducible repeat (first | refine thenQ_ret ?_ | refine blockQ_ret ?_)
     refine RT ?_
     first | (simp_all [eventOk, inR, V.erase, V.trav, packV]; done) | (simp_all [eventOk, inR, V.erase, V.trav, packV] <;> omega)
    try simp only [bsimp] at hg1_17
    iterate 4 (refine OX ?_)
    refine OP (d := 24) (fun hg1_21 => ?_) (fun hg1_21 => ?_)
    ·
     try simp only [bsimp] at hg1_21
     iterate 5 (refine OX ?_)
     refine OO ?_
     iterate 3 (refine EV ?_)
     refine ON ?_
     refine Ok.ret ?_
     with_reducible repeat (first | refine thenQ_ret ?_ | refine blockQ_ret ?_)
     refine RT ?_
     first | (simp_all [eventOk, inR, V.erase, V.trav, packV]; done) | (simp_all [eventOk, inR, V.erase, V.trav, packV] <;> omega)
    try simp only [bsimp] at hg1_21
    iterate 4 (refine OU ?_)
    refine OX ?_
    refine OO ?_
    iterate 3 (refine EV ?_)
    refine ON ?_
    refine Ok.ret ?_
    with_reducible repeat (first | refine thenQ_ret ?_ | refine blockQ_ret ?_)
    refine RT ?_
    first | (simp_all [eventOk, inR, V.erase, V.trav, packV]; done) | (simp_all [eventOk, inR, V.erase, V.trav, packV] <;> omega)
   try simp only [bsimp] at hg1_13
   iterate 14 (refine OU ?_)
   iterate 2 (refine EV ?_)
   refine ON ?_
   refine Ok.ret ?_
   with_reducible repeat (first | refine thenQ_ret ?_ | refine blockQ_ret ?_)
   refine RT ?_
   first | (simp_all [eventOk, inR, V.erase, V.trav, packV]; done) | (simp_all [eventOk, inR, V.erase, V.trav, packV] <;> omega)
  try simp only [bsimp] at hg1_8
  iterate 3 (refine OU ?_)
  iterate 2 (refine EV ?_)
  iterate 14 (refine OU ?_)
  iterate 2 (refine EV ?_)
  refine ON ?_
  refine Ok.ret ?_
  with_reducible repeat (first | refine thenQ_ret ?_ | refine blockQ_ret ?_)
  refine RT ?_
  first | (simp_all [eventOk, inR, V.erase, V.trav, packV]; done) | (simp_all [eventOk, inR, V.erase, V.trav, packV] <;> omega)
 try simp only [bsimp] at hg1_3
 iterate 3 (refine OU ?_)
 iterate 2 (refine EV ?_)
 iterate 3 (refine OU ?_)
 iterate 2 (refine EV ?_)
 iterate 14 (refine OU ?_)
 iterate 2 (refine EV ?_)
 refine ON ?_
 refine Ok.ret ?_
 with_reducible repeat (first | refine thenQ_ret ?_ | refine blockQ_ret ?_)
 refine RT ?_
 first | (simp_all [eventOk, inR, V.erase, V.trav, packV]; done) | (simp_all [eventOk, inR, V.erase, V.trav, packV] <;> omega)
theorem w_spec_EventOk (e : Event) : Weak Tryz.prog 16 [.agg (cEvent e)] (.bool (eventOk e)) := by
 refine Weak.enter tab_ok Tryz.func16 rfl (.inr (by simp [V.labelsL, V.labels, zz])) (t := [.agg (cEvent e), .any, .any, .any, .any, .any, .any, .any, .any, .any, .any, .any, .any, .any, .any, .any, .any, .any, .any, .any, .any, .any, .any, .any, .any, .any, .any]) rfl ?_
 refine OQ ?_
 iterate 2 (refine EV ?_)
 refine ON ?_
 refine Ok.seq ?_
 refine OQ ?_
 iterate 2 (refine EV ?_)
 refine OW cl36 (w_spec_l01In _ _ _) ?_
 iterate 2 (refine EV ?_)
 refine OP (d := 7) (fun hg1_4 => ?_) (fun hg1_4 => ?_)
 ·
  try simp only [bsimp] at hg1_4
  iterate 3 (refine OU ?_)
  iterate 2 (refine EV ?_)
  iterate 3 (refine OU ?_)
  refine EV ?_
  refine ON ?_
  refine Ok.cond_true (by simp only [kE, kT, kL, kC] <;> rfl) ?_
  refine OQ ?_
  refine EV ?_
  refine ON ?_
  refine Ok.ret ?_
  with_reducible repeat (first | refine thenQ_ret ?_ | refine blockQ_ret ?_)
  refine RT ?_
  first | (simp_all [eventOk, inR, V.erase, V.trav, packV]; done) | (simp_all [eventOk, inR, V.erase, V.trav, packV] <;> omega)
 try simp only [bsimp] at hg1_4
 refine OX ?_
 refine OX ?_
 refine OO ?_
 iterate 3 (refine EV ?_)
 refine OP (d := 12) (fun hg1_9 => ?_) (fun hg1_9 => ?_)
 ·
  try simp only [bsimp] at hg1_9
  iterate 3 (refine OU ?_)
  refine EV ?_
  refine ON ?_
  refine Ok.cond_true (by simp only [kE, kT, kL, kC] <;> rfl) ?_
  refine OQ ?_
  refine EV ?_
  refine ON ?_
  refine Ok.ret ?_
  with_reducible repeat (first | refine thenQ_ret ?_ | refine blockQ_ret ?_)
  refine RT ?_
  first | (simp_all [eventOk, inR, V.erase, V.trav, packV]; done) | (simp_all [eventOk, inR, V.erase, V.trav, packV] <;> omega)
 try simp only [bsimp] at hg1_9
 refine OX ?_
 refine OX ?_
 refine OO ?_
 iterate 2 (refine EV ?_)
 refine ON ?_
 refine OC (fun hb1 => ?_) (fun hb1 => ?_)
 ·
  try simp only [bsimp] at hb1
  refine OQ ?_
  refine EV ?_
  refine ON ?_
  refine Ok.ret ?_
  with_reducible repeat (first | refine thenQ_ret ?_ | refine blockQ_ret ?_)
  refine RT ?_
  first | (simp_all [eventOk, inR, V.erase, V.trav, packV]; done) | (simp_all [eventOk, inR, V.erase, V.trav, packV] <;> omega)
 try simp only [bsimp] at hb1
 refine Ok.skip ?_
 refine Ok.seq ?_
 refine OQ ?_
 iterate 3 (refine EV ?_)
 refine ON ?_
 refine OC (fun hb3 => ?_) (fun hb3 => ?_)
 ·
  try simp only [bsimp] at hb3
  refine OQ ?_
  iterate 5 (refine EV ?_)
  refine ON ?_
  refine Ok.ret ?_
  with_reducible repeat (first | refine thenQ_ret ?_ | refine blockQ_ret ?_)
  refine RT ?_
  first | (simp_all [eventOk, inR, V.erase, V.trav, packV]; done) | (simp_all [eventOk, inR, V.erase, V.trav, packV] <;> omega)
 try simp only [bsimp] at hb3
 refine Ok.skip ?_
 refine OQ ?_
 iterate 4 (refine EV ?_)
 refine ON ?_
 refine Ok.ret ?_
 with_reducible repeat (first | refine thenQ_ret ?_ | refine blockQ_ret ?_)
 refine RT ?_
 first | (simp_all [eventOk, inR, V.erase, V.trav, packV]; done) | (simp_all [eventOk, inR, V.erase, V.trav, packV] <;> omega)
end Go.Proofs.YtliiphpbfambcaaGreatDoor.K

/- Walks: numbers of scripts read. Printed by w2.py. -/
namespace Go.Proofs.YtliiphpbfambcaaGreatDoor.K
open Go Go.RowKit
set_option linter.unusedVariables false
set_option linter.unusedSimpArgs false
set_option maxHeartbeats 4000000
set_option maxRecDepth 20000
theorem w_spec_l01Figure (d : Nat) (hd : d < 16) : Weak Tryz.prog 65 [.int .i64 (d : Int)] (.int .u8 ((fig d).toNat : Int)) := by
 refine Weak.enter tab_ok Tryz.func65 rfl (.inr (by simp [V.labelsL, V.labels, zz, zf, zy])) (t := [.int .i64 (d : Int), .any, .any, .any, .any, .any, .any, .any, .any, .any, .any, .any]) rfl ?_
 refine OQ ?_
 refine EV ?_
 refine ON ?_
 refine Ok.seq ?_
 refine OQ ?_
 iterate 2 (refine EV ?_)
 refine ON ?_
 refine OC (fun hb1 => ?_) (fun hb1 => ?_)
 ·
  try simp only [bsimp] at hb1
  have h1 : d < 10 := by omega
  rw [fig_lt h1]
  refine OQ ?_
  iterate 2 (refine EV ?_)
  refine OkOps.ev tab_ok rfl (by simp only [kE, kT, kL, kC, fig_byte h1] <;> rfl) (by simp only [kP] <;> rfl) ?_
  refine EV ?_
  refine ON ?_
  refine Ok.ret ?_
  with_reducible repeat (first | refine thenQ_ret ?_ | refine blockQ_ret ?_)
  refine RT ?_
  rfl
 try simp only [bsimp] at hb1
 have h1 : ¬ d < 10 := by omega
 rw [fig_ge h1]
 refine Ok.skip ?_
 refine OQ ?_
 iterate 3 (refine EV ?_)
 refine OkOps.ev tab_ok rfl (by simp only [kE, kT, kL, kC, fig_byte2 hd h1] <;> rfl) (by simp only [kP] <;> rfl) ?_
 refine EV ?_
 refine ON ?_
 refine Ok.ret ?_
 with_reducible repeat (first | refine thenQ_ret ?_ | refine blockQ_ret ?_)
 refine RT ?_
 rfl
theorem w_spec_Decimal (v : Int) : Weak Tryz.prog 48 [.int .i64 v] (.str (decimal v)) := by
 refine Weak.enter tab_ok Tryz.func48 rfl (.inr (by simp [V.labelsL, V.labels, zz, zf, zy])) (t := [.int .i64 v, .any, .any, .any, .any, .any, .any, .any, .any, .any, .any, .any, .any, .any, .any, .any, .any, .any, .any, .any, .any, .any, .any, .any, .any, .any, .any, .any, .any, .any]) rfl ?_
 refine OQ ?_
 refine EV ?_
 refine ON ?_
 refine Ok.seq ?_
 refine OQ ?_
 iterate 2 (refine EV ?_)
 refine ON ?_
 refine OC (fun hb1 => ?_) (fun hb1 => ?_)
 ·
  try simp only [bsimp] at hb1
  have hz : v = 0 := by simpa using hb1
  rw [decimal_zero hz]
  refine OQ ?_
  refine EV ?_
  refine ON ?_
  refine Ok.ret ?_
  with_reducible repeat (first | refine thenQ_ret ?_ | refine blockQ_ret ?_)
  refine RT ?_
  rfl
 try simp only [bsimp] at hb1
 have hz : ¬ v = 0 := by simpa using hb1
 refine Ok.skip ?_
 refine OQ ?_
 iterate 3 (refine EV ?_)
 refine ON ?_
 refine OQ ?_
 refine EV ?_
 refine ON ?_
 refine Ok.seq ?_
 refine Ok.block ?_
 refine Ok.loopWZ (τ := Int × Str) (fun x => [(0, .int .i64 x.1), (4, .str x.2)]) [5, 10, 11, 12, 13, 14, 15, 16, 17, 18, 19, 20, 21, 22, 23, 24, 25] (fun x => by simp only [kover] <;> rfl) (fun x => decV x.1 x.2 = decV v []) (fun x => x.1.natAbs) (v, []) (by omega) (by (repeat (first | exact trivial | refine leC ?_ | refine leK ?_ ?_)) <;> first | (exact le_rfl' _) | exact le_rfl' _) (rfl) ?_
 rintro ⟨m, acc⟩ h1
 have h1 : decV m acc = decV v [] := h1
 have h2 := decV_acc h1
 refine Ok.seq ?_
 refine OQ ?_
 iterate 2 (refine EV ?_)
 refine ON ?_
 refine OC (fun hb5 => ?_) (fun hb5 => ?_)
 ·
  try simp only [bsimp] at hb5
  have hm : ¬ m = 0 := by simpa using hb5
  refine Ok.skip ?_
  refine Ok.block ?_
  refine OQ ?_
  iterate 3 (refine EV ?_)
  refine ON ?_
  refine Ok.seq ?_
  refine OQ ?_
  iterate 2 (refine EV ?_)
  refine ON ?_
  refine OC (fun hb7 => ?_) (fun hb7 => ?_)
  ·
   try simp only [bsimp] at hb7
   have hdg := dg_neg (show m.tmod 10 < 0 by omega)
   refine Ok.region ?_
   refine EV ?_
   refine OkOps.ev tab_ok rfl (by simp only [kE, kT, kL, kC, hdg] <;> rfl) (by simp only [kP] <;> rfl) ?_
   refine EV ?_
   refine ON ?_
   refine OQ ?_
   refine OkOps.ev tab_ok rfl (by simp only [kE, kT, kL, kC, hdg] <;> rfl) (by simp only [kP] <;> rfl) ?_
   refine OW cl65 (w_spec_l01Figure (dg m) (by have := dg_lt m; omega)) ?_
   refine OkOps.ev tab_ok rfl (ev_bs (by simp only [kT] <;> rfl) (by simp only [kT] <;> rfl) (by decide) (by decide) (by simp only [kE, kT, kL, kC, List.map_cons, List.map_nil] <;> rfl) (by simp only [kfe, beq_self_eq_true, Bool.and_true, Bool.true_and, decide_true, Nat.zero_add, Nat.lt_add_one, Nat.reduceLT, Nat.reduceAdd, Nat.zero_lt_succ, if_true, ↓reduceIte] <;> rfl)) (by simp only [kP] <;> rfl) ?_
   refine OkOps.ev tab_ok rfl (ev_text' (by simp only [kE, kT, kL, kC] <;> rfl) rfl rfl rfl (by simp only [kby, Option.map_some, List.append_assoc, List.cons_append, List.nil_append] <;> rfl)) (by simp only [kP] <;> rfl) ?_
   refine EV ?_
   refine OkOps.ev tab_ok rfl (ev_cat (by simp only [kE, kT, kL, kC] <;> rfl) (by simp only [kE, kT, kL, kC] <;> rfl) (by first | omega | (simp only [List.length_cons, List.length_nil]; omega))) (by simp only [kP] <;> rfl) ?_
   refine EV ?_
   refine ON ?_
   refine Ok.region ?_
   iterate 3 (refine EV ?_)
   refine ON ?_
   refine ⟨(IntKind.i64.wrap (m.tdiv 10), fig (dg m) :: acc), ?_, rfl, by show decV _ _ = _; rw [← h1, decV_pos hm], quo_abs_lt hm⟩
   simp only [V.renL, V.travL, V.travLL, V.trav, frz, zz, zf, zy, Nat.reduceLeDiff, ↓reduceIte]
   (repeat (first | exact trivial | refine leC ?_ | refine leK ?_ ?_)) <;> first | (exact le_rfl' _) | exact le_rfl' _
  try simp only [bsimp] at hb7
  have hdg := dg_pos (show ¬ m.tmod 10 < 0 by omega)
  refine Ok.skip ?_
  refine OQ ?_
  refine OkOps.ev tab_ok rfl (by simp only [kE, kT, kL, kC, hdg] <;> rfl) (by simp only [kP] <;> rfl) ?_
  refine OW cl65 (w_spec_l01Figure (dg m) (by have := dg_lt m; omega)) ?_
  refine OkOps.ev tab_ok rfl (ev_bs (by simp only [kT] <;> rfl) (by simp only [kT] <;> rfl) (by decide) (by decide) (by simp only [kE, kT, kL, kC, List.map_cons, List.map_nil] <;> rfl) (by simp only [kfe, beq_self_eq_true, Bool.and_true, Bool.true_and, decide_true, Nat.zero_add, Nat.lt_add_one, Nat.reduceLT, Nat.reduceAdd, Nat.zero_lt_succ, if_true, ↓reduceIte] <;> rfl)) (by simp only [kP] <;> rfl) ?_
  refine OkOps.ev tab_ok rfl (ev_text' (by simp only [kE, kT, kL, kC] <;> rfl) rfl rfl rfl (by simp only [kby, Option.map_some, List.append_assoc, List.cons_append, List.nil_append] <;> rfl)) (by simp only [kP] <;> rfl) ?_
  refine EV ?_
  refine OkOps.ev tab_ok rfl (ev_cat (by simp only [kE, kT, kL, kC] <;> rfl) (by simp only [kE, kT, kL, kC] <;> rfl) (by first | omega | (simp only [List.length_cons, List.length_nil]; omega))) (by simp only [kP] <;> rfl) ?_
  refine EV ?_
  refine ON ?_
  refine Ok.region ?_
  iterate 3 (refine EV ?_)
  refine ON ?_
  refine ⟨(IntKind.i64.wrap (m.tdiv 10), fig (dg m) :: acc), ?_, rfl, by show decV _ _ = _; rw [← h1, decV_pos hm], quo_abs_lt hm⟩
  simp only [V.renL, V.travL, V.travLL, V.trav, frz, zz, zf, zy, Nat.reduceLeDiff, ↓reduceIte]
  (repeat (first | exact trivial | refine leC ?_ | refine leK ?_ ?_)) <;> first | (exact le_rfl' _) | exact le_rfl' _
 try simp only [bsimp] at hb5
 have hm : m = 0 := by simpa using hb5
 rw [decV_zero hm] at h1
 subst h1
 refine Ok.exit ?_
 refine Ok.seq ?_
 refine OQ ?_
 refine EV ?_
 refine ON ?_
 refine OC (fun hb11 => ?_) (fun hb11 => ?_)
 ·
  try simp only [bsimp] at hb11
  rw [decimal_neg (show v < 0 by omega)]
  refine OQ ?_
  refine EV ?_
  refine OkOps.ev tab_ok rfl (ev_cat (by simp only [kE, kT, kL, kC] <;> rfl) (by simp only [kE, kT, kL, kC] <;> rfl) (by first | omega | (simp only [List.length_cons, List.length_nil]; omega))) (by simp only [kP] <;> rfl) ?_
  refine EV ?_
  refine ON ?_
  refine Ok.ret ?_
  with_reducible repeat (first | refine thenQ_ret ?_ | refine blockQ_ret ?_)
  refine RT ?_
  rfl
 try simp only [bsimp] at hb11
 rw [decimal_pos hz (show ¬ v < 0 by omega)]
 refine Ok.skip ?_
 refine OQ ?_
 iterate 2 (refine EV ?_)
 refine ON ?_
 refine Ok.ret ?_
 with_reducible repeat (first | refine thenQ_ret ?_ | refine blockQ_ret ?_)
 refine RT ?_
 rfl
theorem w_impl_Decimal (v : Int) : Weak Tryz.prog 17 [.int .i64 v] (.str (decimal v)) := by
 refine Weak.enter tab_ok Tryz.func17 rfl (.inr (by simp [V.labelsL, V.labels, zz, zf, zy])) (t := [.int .i64 v, .any, .any, .any, .any, .any, .any, .any, .any, .any, .any, .any, .any, .any, .any, .any, .any, .any, .any, .any, .any, .any, .any, .any, .any, .any, .any, .any, .any, .any]) rfl ?_
 refine OQ ?_
 refine EV ?_
 refine ON ?_
 refine Ok.seq ?_
 refine OQ ?_
 iterate 2 (refine EV ?_)
 refine ON ?_
 refine OC (fun hb1 => ?_) (fun hb1 => ?_)
 ·
  try simp only [bsimp] at hb1
  have hz : v = 0 := by simpa using hb1
  rw [decimal_zero hz]
  refine OQ ?_
  refine EV ?_
  refine ON ?_
  refine Ok.ret ?_
  with_reducible repeat (first | refine thenQ_ret ?_ | refine blockQ_ret ?_)
  refine RT ?_
  rfl
 try simp only [bsimp] at hb1
 have hz : ¬ v = 0 := by simpa using hb1
 refine Ok.skip ?_
 refine OQ ?_
 refine EV ?_
 refine ON ?_
 refine Ok.seq ?_
 refine OQ ?_
 iterate 2 (refine EV ?_)
 refine ON ?_
 refine Ok.block ?_
 refine Ok.loopW (τ := Int × Str) (fun x => [(3, .str x.2), (4, .int .i64 x.1)]) [5, 9, 10, 11, 12, 13, 14, 15, 16, 17, 18, 19, 20, 21, 22, 23, 24] (fun x => by simp only [kover] <;> rfl) (fun x => decV x.1 x.2 = decV v []) (fun x => x.1.natAbs) (v, []) (by (repeat (first | exact trivial | refine leC ?_ | refine leK ?_ ?_)) <;> first | (exact le_rfl' _) | exact le_rfl' _) (rfl) ?_
 rintro ⟨m, acc⟩ h1
 have h1 : decV m acc = decV v [] := h1
 have h2 := decV_acc h1
 refine Ok.seq ?_
 refine OQ ?_
 iterate 2 (refine EV ?_)
 refine ON ?_
 refine OC (fun hb5 => ?_) (fun hb5 => ?_)
 ·
  try simp only [bsimp] at hb5
  have hm : ¬ m = 0 := by simpa using hb5
  have hdl := dg_lt m
  refine Ok.skip ?_
  refine Ok.seq ?_
  refine Ok.block ?_
  refine OQ ?_
  iterate 3 (refine EV ?_)
  refine ON ?_
  refine OQ ?_
  iterate 4 (refine EV ?_)
  refine OkOps.ev tab_ok rfl (by simp only [kE, kT, kL, kC, if_true, dg_max] <;> rfl) (by simp only [kP] <;> rfl) ?_
  refine ON ?_
  refine Ok.region ?_
  iterate 2 (refine OkOps.ev tab_ok rfl (by simp only [kE, kT, kL, kC, if_true, dg_max] <;> rfl) (by simp only [kP] <;> rfl) ?_)
  refine OkOps.ev tab_ok rfl (by simp only [kE, kT, kL, kC, wrap_add_one (show dg m + 1 ≤ 9223372036854775807 by omega)] <;> rfl) (by simp only [kP] <;> rfl) ?_
  refine OkOps.ev tab_ok rfl (ev_cut (by simp only [kE, kT, kL, kC] <;> rfl) (by simp only [kE, kT, kL, kC] <;> rfl) (by simp only [kE, kT, kL, kC] <;> rfl) rfl (by omega) (by simp only [List.length_cons, List.length_nil]; omega)) (by simp only [kP] <;> rfl) ?_
  refine EV ?_
  refine OkOps.ev tab_ok rfl (ev_cat (by simp only [kE, kT, kL, kC, fig_cut (show dg m < 16 by omega)] <;> rfl) (by simp only [kE, kT, kL, kC, fig_cut (show dg m < 16 by omega)] <;> rfl) (by first | omega | (simp only [List.length_cons, List.length_nil]; omega) | (rw [fig_cut (by omega)]; simp only [List.length_cons, List.length_nil]; omega))) (by simp only [kP] <;> rfl) ?_
  refine EV ?_
  refine ON ?_
  refine Ok.region ?_
  iterate 3 (refine EV ?_)
  refine ON ?_
  refine ⟨(IntKind.i64.wrap (m.tdiv 10), fig (dg m) :: acc), ?_, rfl, rfl, by show decV _ _ = _; rw [← h1, decV_pos hm], quo_abs_lt hm⟩
  (repeat (first | exact trivial | refine leC ?_ | refine leK ?_ ?_)) <;> first | (exact le_rfl' _) | exact le_rfl' _
 try simp only [bsimp] at hb5
 have hm : m = 0 := by simpa using hb5
 rw [decV_zero hm] at h1
 subst h1
 refine Ok.exit ?_
 refine Ok.seq ?_
 refine OQ ?_
 iterate 2 (refine EV ?_)
 refine ON ?_
 refine OC (fun hb10 => ?_) (fun hb10 => ?_)
 ·
  try simp only [bsimp] at hb10
  rw [decimal_neg (show v < 0 by omega)]
  refine Ok.region ?_
  refine EV ?_
  refine OkOps.ev tab_ok rfl (ev_cat (by simp only [kE, kT, kL, kC] <;> rfl) (by simp only [kE, kT, kL, kC] <;> rfl) (by first | omega | (simp only [List.length_cons, List.length_nil]; omega) | (rw [fig_cut (by omega)]; simp only [List.length_cons, List.length_nil]; omega))) (by simp only [kP] <;> rfl) ?_
  refine EV ?_
  refine ON ?_
  refine OQ ?_
  iterate 2 (refine EV ?_)
  refine ON ?_
  refine Ok.ret ?_
  with_reducible repeat (first | refine thenQ_ret ?_ | refine blockQ_ret ?_)
  refine RT ?_
  rfl
 try simp only [bsimp] at hb10
 rw [decimal_pos hz (show ¬ v < 0 by omega)]
 refine Ok.skip ?_
 refine OQ ?_
 iterate 2 (refine EV ?_)
 refine ON ?_
 refine Ok.ret ?_
 with_reducible repeat (first | refine thenQ_ret ?_ | refine blockQ_ret ?_)
 refine RT ?_
 rfl
theorem w_spec_ReadDecimal (s : Str) (hs : s.length ≤ 1000000) : Weak Tryz.prog 33 [.str s] (vRD (readDec s)) := by
 refine Weak.enter tab_ok Tryz.func33 rfl (.inr (by simp [V.labelsL, V.labels, zz, zf, zy])) (t := [.str s, .any, .any, .any, .any, .any, .any, .any, .any, .any, .any, .any, .any, .any, .any, .any, .any, .any, .any, .any, .any, .any, .any, .any, .any, .any, .any, .any, .any, .any, .any, .any, .any, .any, .any, .any, .any, .any, .any, .any, .any, .any]) rfl ?_
 refine OQ ?_
 iterate 2 (refine EV ?_)
 refine ON ?_
 refine Ok.seq ?_
 refine OQ ?_
 iterate 3 (refine EV ?_)
 refine ON ?_
 refine OC (fun hb1 => ?_) (fun hb1 => ?_)
 ·
  try simp only [bsimp] at hb1
  rw [show readDec s = (0, false) from readDec_long (by omega)]
  refine OQ ?_
  iterate 2 (refine EV ?_)
  refine ON ?_
  refine Ok.ret ?_
  with_reducible repeat (first | refine thenQ_ret ?_ | refine blockQ_ret ?_)
  refine RT ?_
  first | rfl | (simp [V.erase, V.trav, V.travL, packV, zz, zf, zy]; done)
 try simp only [bsimp] at hb1
 have hl : s.length ≤ 10 := by omega
 refine Ok.skip ?_
 refine OQ ?_
 refine EV ?_
 refine ON ?_
 refine Ok.seq ?_
 refine OQ ?_
 refine EV ?_
 refine ON ?_
 refine Ok.block ?_
 refine Ok.loopW (τ := Nat) (fun x => [(4, .int .i64 (decOf (s.take x) 0 : Int)), (5, .int .i64 (x : Int))]) [2, 3, 9, 10, 11, 12, 13, 14, 15, 16, 17, 18, 19, 20, 21, 22, 23, 24, 25, 26, 27, 28, 29, 30, 31, 32] (fun x => by simp only [kover] <;> rfl) (fun x => x ≤ s.length ∧ (s.take x).all isDig = true) (fun x => s.length - x) 0 (by (repeat (first | exact trivial | refine leC ?_ | refine leK ?_ ?_)) <;> first | (first | exact le_rfl' _ | exact le_eqm rfl) | exact le_rfl' _) (⟨Nat.zero_le _, rfl⟩) ?_
 rintro i ⟨h1, h2⟩
 refine Ok.seq ?_
 refine OQ ?_
 iterate 4 (refine EV ?_)
 refine ON ?_
 refine OC (fun hb5 => ?_) (fun hb5 => ?_)
 ·
  try simp only [bsimp] at hb5
  have hi : i < s.length := by omega
  have hb9 := dec_small h2 (show i ≤ 10 by omega)
  refine Ok.skip ?_
  refine Ok.seq ?_
  refine Ok.block ?_
  refine Ok.seq ?_
  refine Ok.seqC [(24, .bool (!isDig s[i]))] [15, 16, 17, 18, 19, 20, 21, 22, 23] (by simp only [kover] <;> rfl) ?_ ?_
  ·
   refine Ok.region ?_
   iterate 2 (refine EV ?_)
   refine OkOps.ev tab_ok rfl (ev_byte_lt (by simp only [kE, kT, kL, kC] <;> rfl) (by simp only [kE, kT, kL, kC] <;> rfl) (hi) rfl) (by simp only [kP] <;> rfl) ?_
   iterate 2 (refine EV ?_)
   refine OP (d := 19) (fun hg7_4 => ?_) (fun hg7_4 => ?_)
   ·
    try simp only [bsimp] at hg7_4
    iterate 4 (refine OU ?_)
    refine EV ?_
    refine ON ?_
    refine ⟨rfl, ?_, rfl, rfl⟩
    (repeat (first | exact trivial | refine leC ?_ | refine leK ?_ ?_)) <;> first | (refine .inl (congrArg V.bool ?_); first | (simp [isDig, *]; done) | (simp [isDig, *] <;> omega) | (rw [Bool.eq_iff_iff]; simp [isDig, *] <;> omega) | (simp_all [isDig]; done) | (simp_all [isDig]; omega)) | exact le_rfl' _
   try simp only [bsimp] at hg7_4
   refine OX ?_
   refine OX ?_
   refine OO ?_
   refine OkOps.ev tab_ok rfl (ev_byte_lt (by simp only [kE, kT, kL, kC] <;> rfl) (by simp only [kE, kT, kL, kC] <;> rfl) (hi) rfl) (by simp only [kP] <;> rfl) ?_
   refine OO ?_
   iterate 2 (refine EV ?_)
   refine ON ?_
   refine ⟨rfl, ?_, rfl, rfl⟩
   (repeat (first | exact trivial | refine leC ?_ | refine leK ?_ ?_)) <;> first | (refine .inl (congrArg V.bool ?_); first | (simp [isDig, *]; done) | (simp [isDig, *] <;> omega) | (rw [Bool.eq_iff_iff]; simp [isDig, *] <;> omega) | (simp_all [isDig]; done) | (simp_all [isDig]; omega)) | exact le_rfl' _
  refine OC (fun hb7 => ?_) (fun hb7 => ?_)
  ·
   try simp only [bsimp] at hb7
   rw [readDec_bad hi (by simpa using hb7)]
   refine OQ ?_
   iterate 2 (refine EV ?_)
   refine ON ?_
   refine Ok.ret ?_
   with_reducible repeat (first | refine thenQ_ret ?_ | refine blockQ_ret ?_)
   refine RT ?_
   first | rfl | (simp [V.erase, V.trav, V.travL, packV, zz, zf, zy]; done)
  try simp only [bsimp] at hb7
  have hd : isDig s[i] = true := by simpa using hb7
  obtain ⟨hd1, hd2⟩ := isDig_t hd
  have hnx := decOf_next hi
  have hw1 : IntKind.i64.wrap (10 * (decOf (s.take i) 0 : Int)) = 10 * (decOf (s.take i) 0 : Int) := by rw [IntKind.wrap_i64]; omega
  have hw2 : IntKind.i64.wrap (10 * (decOf (s.take i) 0 : Int) + (s[i].toNat : Int)) = 10 * (decOf (s.take i) 0 : Int) + (s[i].toNat : Int) := by rw [IntKind.wrap_i64]; omega
  have hw3 : IntKind.i64.wrap (10 * (decOf (s.take i) 0 : Int) + (s[i].toNat : Int) - 48) = (decOf (s.take (i + 1)) 0 : Int) := by rw [hnx, IntKind.wrap_i64]; omega
  refine Ok.skip ?_
  refine Ok.region ?_
  refine EV ?_
  refine OkOps.ev tab_ok rfl (by simp only [kE, kT, kL, kC, hw1] <;> rfl) (by simp only [kP] <;> rfl) ?_
  iterate 2 (refine EV ?_)
  refine OkOps.ev tab_ok rfl (ev_byte_lt (by simp only [kE, kT, kL, kC] <;> rfl) (by simp only [kE, kT, kL, kC] <;> rfl) (hi) rfl) (by simp only [kP] <;> rfl) ?_
  refine OkOps.ev tab_ok rfl (by simp only [kE, kT, kL, kC, four_b] <;> rfl) (by simp only [kP] <;> rfl) ?_
  refine OkOps.ev tab_ok rfl (by simp only [kE, kT, kL, kC, hw2] <;> rfl) (by simp only [kP] <;> rfl) ?_
  refine OkOps.ev tab_ok rfl (by simp only [kE, kT, kL, kC, hw3] <;> rfl) (by simp only [kP] <;> rfl) ?_
  refine EV ?_
  refine ON ?_
  refine Ok.region ?_
  iterate 3 (refine EV ?_)
  refine ON ?_
  refine ⟨i + 1, ?_, rfl, rfl, ⟨by omega, all_next hi h2 hd⟩, by omega⟩
  (repeat (first | exact trivial | refine leC ?_ | refine leK ?_ ?_)) <;> first | (first | exact le_rfl' _ | (rw [wrap_succ (by omega)]; exact le_rfl' _)) | exact le_rfl' _
 try simp only [bsimp] at hb5
 have he : i = s.length := by omega
 subst he
 rw [List.take_length] at *
 rw [readDec_end hl h2]
 refine Ok.exit ?_
 refine Ok.seq ?_
 refine Ok.seqC [(40, .bool (!decide (decOf s 0 ≤ 1000000000 ∧ decimal (decOf s 0 : Int) = s)))] [33, 34, 35, 36, 37, 38, 39] (by simp only [kover] <;> rfl) ?_ ?_
 ·
  refine Ok.region ?_
  iterate 3 (refine EV ?_)
  refine OP (d := 35) (fun hg10_2 => ?_) (fun hg10_2 => ?_)
  ·
   try simp only [bsimp] at hg10_2
   iterate 4 (refine OU ?_)
   refine EV ?_
   refine ON ?_
   refine ⟨rfl, ?_, rfl, rfl⟩
   (repeat (first | exact trivial | refine leC ?_ | refine leK ?_ ?_)) <;> first | (refine .inl (congrArg V.bool ?_); first | (simp [*]; done) | (simp [*] <;> omega) | (simp_all; done) | (simp_all; omega)) | exact le_rfl' _
  try simp only [bsimp] at hg10_2
  refine OX ?_
  refine OO ?_
  refine OW cl48 (w_spec_Decimal (decOf s 0 : Int)) ?_
  refine OX ?_
  refine OO ?_
  iterate 2 (refine EV ?_)
  refine ON ?_
  refine ⟨rfl, ?_, rfl, rfl⟩
  (repeat (first | exact trivial | refine leC ?_ | refine leK ?_ ?_)) <;> first | (refine .inl (congrArg V.bool ?_); first | (simp [*]; done) | (simp [*] <;> omega) | (simp_all; done) | (simp_all; omega)) | exact le_rfl' _
 refine OC (fun hb10 => ?_) (fun hb10 => ?_)
 ·
  try simp only [bsimp] at hb10
  have hc : ¬ (decOf s 0 ≤ 1000000000 ∧ decimal (decOf s 0 : Int) = s) := by simpa using hb10
  rw [if_neg hc]
  refine OQ ?_
  iterate 2 (refine EV ?_)
  refine ON ?_
  refine Ok.ret ?_
  with_reducible repeat (first | refine thenQ_ret ?_ | refine blockQ_ret ?_)
  refine RT ?_
  first | rfl | (simp [V.erase, V.trav, V.travL, packV, zz, zf, zy]; done)
 try simp only [bsimp] at hb10
 have hc : decOf s 0 ≤ 1000000000 ∧ decimal (decOf s 0 : Int) = s := by simpa using hb10
 rw [if_pos hc]
 refine Ok.skip ?_
 refine OQ ?_
 iterate 3 (refine EV ?_)
 refine ON ?_
 refine Ok.ret ?_
 with_reducible repeat (first | refine thenQ_ret ?_ | refine blockQ_ret ?_)
 refine RT ?_
 first | rfl | (simp [V.erase, V.trav, V.travL, packV, zz, zf, zy]; done)
theorem w_impl_ReadDecimal (s : Str) (hs : s.length ≤ 1000000) : Weak Tryz.prog 29 [.str s] (vRD (readDec s)) := by
 refine Weak.enter tab_ok Tryz.func29 rfl (.inr (by simp [V.labelsL, V.labels, zz, zf, zy])) (t := [.str s, .any, .any, .any, .any, .any, .any, .any, .any, .any, .any, .any, .any, .any, .any, .any, .any, .any, .any, .any, .any, .any, .any, .any, .any, .any, .any, .any, .any, .any, .any, .any, .any, .any, .any, .any, .any, .any, .any, .any, .any, .any, .any]) rfl ?_
 refine OQ ?_
 iterate 2 (refine EV ?_)
 refine ON ?_
 refine Ok.seq ?_
 refine OQ ?_
 iterate 2 (refine EV ?_)
 refine OW cl28 (w_impl_within _ _ _) ?_
 refine EV ?_
 refine ON ?_
 refine OC (fun hb1 => ?_) (fun hb1 => ?_)
 ·
  try simp only [bsimp] at hb1
  rw [show readDec s = (0, false) from by have h9 := inR_f.1 hb1; by_cases h0 : s.length = 0; (rw [List.length_eq_zero_iff.1 h0]; exact readDec_none); exact readDec_long (by omega)]
  refine OQ ?_
  iterate 2 (refine EV ?_)
  refine ON ?_
  refine Ok.ret ?_
  with_reducible repeat (first | refine thenQ_ret ?_ | refine blockQ_ret ?_)
  refine RT ?_
  first | rfl | (simp [V.erase, V.trav, V.travL, packV, zz, zf, zy]; done)
 try simp only [bsimp] at hb1
 have hl : s.length ≤ 10 := by have h9 := inR_t.1 hb1; omega
 refine Ok.skip ?_
 refine OQ ?_
 refine EV ?_
 refine ON ?_
 refine Ok.seq ?_
 refine OQ ?_
 refine EV ?_
 refine ON ?_
 refine Ok.block ?_
 refine Ok.loopW (τ := Nat) (fun x => [(4, .int .i64 (decOf (s.take x) 0 : Int)), (5, .int .i64 (x : Int))]) [2, 3, 10, 11, 12, 13, 14, 15, 16, 17, 18, 19, 20, 21, 22, 23, 24, 25, 26, 27, 28, 29, 30, 31, 32, 33] (fun x => by simp only [kover] <;> rfl) (fun x => x ≤ s.length ∧ (s.take x).all isDig = true) (fun x => s.length - x) 0 (by (repeat (first | exact trivial | refine leC ?_ | refine leK ?_ ?_)) <;> first | (first | exact le_rfl' _ | exact le_eqm rfl) | exact le_rfl' _) (⟨Nat.zero_le _, rfl⟩) ?_
 rintro i ⟨h1, h2⟩
 refine Ok.seq ?_
 refine OQ ?_
 iterate 4 (refine EV ?_)
 refine ON ?_
 refine OC (fun hb5 => ?_) (fun hb5 => ?_)
 ·
  try simp only [bsimp] at hb5
  have hi : i < s.length := by omega
  have hb9 := dec_small h2 (show i ≤ 10 by omega)
  refine Ok.skip ?_
  refine Ok.seq ?_
  refine Ok.block ?_
  refine Ok.seq ?_
  refine Ok.seqC [(25, .bool (!isDig s[i]))] [16, 17, 18, 19, 20, 21, 22, 23, 24] (by simp only [kover] <;> rfl) ?_ ?_
  ·
   refine Ok.region ?_
   iterate 2 (refine EV ?_)
   refine OkOps.ev tab_ok rfl (ev_byte_lt (by simp only [kE, kT, kL, kC] <;> rfl) (by simp only [kE, kT, kL, kC] <;> rfl) (hi) rfl) (by simp only [kP] <;> rfl) ?_
   iterate 2 (refine EV ?_)
   refine OP (d := 20) (fun hg7_4 => ?_) (fun hg7_4 => ?_)
   ·
    try simp only [bsimp] at hg7_4
    iterate 4 (refine OU ?_)
    refine EV ?_
    refine ON ?_
    refine ⟨rfl, ?_, rfl, rfl⟩
    (repeat (first | exact trivial | refine leC ?_ | refine leK ?_ ?_)) <;> first | (refine .inl (congrArg V.bool ?_); first | (simp [isDig, *]; done) | (simp [isDig, *] <;> omega) | (rw [Bool.eq_iff_iff]; simp [isDig, *] <;> omega) | (simp_all [isDig]; done) | (simp_all [isDig]; omega)) | exact le_rfl' _
   try simp only [bsimp] at hg7_4
   refine OX ?_
   refine OX ?_
   refine OO ?_
   refine OkOps.ev tab_ok rfl (ev_byte_lt (by simp only [kE, kT, kL, kC] <;> rfl) (by simp only [kE, kT, kL, kC] <;> rfl) (hi) rfl) (by simp only [kP] <;> rfl) ?_
   refine OO ?_
   iterate 2 (refine EV ?_)
   refine ON ?_
   refine ⟨rfl, ?_, rfl, rfl⟩
   (repeat (first | exact trivial | refine leC ?_ | refine leK ?_ ?_)) <;> first | (refine .inl (congrArg V.bool ?_); first | (simp [isDig, *]; done) | (simp [isDig, *] <;> omega) | (rw [Bool.eq_iff_iff]; simp [isDig, *] <;> omega) | (simp_all [isDig]; done) | (simp_all [isDig]; omega)) | exact le_rfl' _
  refine OC (fun hb7 => ?_) (fun hb7 => ?_)
  ·
   try simp only [bsimp] at hb7
   rw [readDec_bad hi (by simpa using hb7)]
   refine OQ ?_
   iterate 2 (refine EV ?_)
   refine ON ?_
   refine Ok.ret ?_
   with_reducible repeat (first | refine thenQ_ret ?_ | refine blockQ_ret ?_)
   refine RT ?_
   first | rfl | (simp [V.erase, V.trav, V.travL, packV, zz, zf, zy]; done)
  try simp only [bsimp] at hb7
  have hd : isDig s[i] = true := by simpa using hb7
  obtain ⟨hd1, hd2⟩ := isDig_t hd
  have hnx := decOf_next hi
  have hw1 : IntKind.i64.wrap (10 * (decOf (s.take i) 0 : Int)) = 10 * (decOf (s.take i) 0 : Int) := by rw [IntKind.wrap_i64]; omega
  have hw0 : IntKind.u8.wrap ((s[i].toNat : Int) - 48) = ((s[i].toNat - 48 : Nat) : Int) := by rw [IntKind.wrap_u8]; omega
  have hwc : IntKind.i64.wrap ((s[i].toNat - 48 : Nat) : Int) = ((s[i].toNat - 48 : Nat) : Int) := by rw [IntKind.wrap_i64]; omega
  have hw2 : IntKind.i64.wrap (10 * (decOf (s.take i) 0 : Int) + ((s[i].toNat - 48 : Nat) : Int)) = (decOf (s.take (i + 1)) 0 : Int) := by rw [hnx, IntKind.wrap_i64]; omega
  refine Ok.skip ?_
  refine Ok.region ?_
  refine EV ?_
  refine OkOps.ev tab_ok rfl (by simp only [kE, kT, kL, kC, hw1] <;> rfl) (by simp only [kP] <;> rfl) ?_
  iterate 2 (refine EV ?_)
  refine OkOps.ev tab_ok rfl (ev_byte_lt (by simp only [kE, kT, kL, kC] <;> rfl) (by simp only [kE, kT, kL, kC] <;> rfl) (hi) rfl) (by simp only [kP] <;> rfl) ?_
  refine OkOps.ev tab_ok rfl (by simp only [kE, kT, kL, kC, hw0] <;> rfl) (by simp only [kP] <;> rfl) ?_
  refine OkOps.ev tab_ok rfl (by simp only [kE, kT, kL, kC, hwc] <;> rfl) (by simp only [kP] <;> rfl) ?_
  refine OkOps.ev tab_ok rfl (by simp only [kE, kT, kL, kC, hw2] <;> rfl) (by simp only [kP] <;> rfl) ?_
  refine EV ?_
  refine ON ?_
  refine Ok.region ?_
  iterate 3 (refine EV ?_)
  refine ON ?_
  refine ⟨i + 1, ?_, rfl, rfl, ⟨by omega, all_next hi h2 hd⟩, by omega⟩
  (repeat (first | exact trivial | refine leC ?_ | refine leK ?_ ?_)) <;> first | (first | exact le_rfl' _ | (rw [wrap_succ (by omega)]; exact le_rfl' _)) | exact le_rfl' _
 try simp only [bsimp] at hb5
 have he : i = s.length := by omega
 subst he
 rw [List.take_length] at *
 rw [readDec_end hl h2]
 refine Ok.exit ?_
 refine Ok.seq ?_
 refine Ok.seqC [(41, .bool (!decide (decOf s 0 ≤ 1000000000 ∧ decimal (decOf s 0 : Int) = s)))] [34, 35, 36, 37, 38, 39, 40] (by simp only [kover] <;> rfl) ?_ ?_
 ·
  refine Ok.region ?_
  iterate 3 (refine EV ?_)
  refine OP (d := 36) (fun hg10_2 => ?_) (fun hg10_2 => ?_)
  ·
   try simp only [bsimp] at hg10_2
   iterate 4 (refine OU ?_)
   refine EV ?_
   refine ON ?_
   refine ⟨rfl, ?_, rfl, rfl⟩
   (repeat (first | exact trivial | refine leC ?_ | refine leK ?_ ?_)) <;> first | (refine .inl (congrArg V.bool ?_); first | (simp [*]; done) | (simp [*] <;> omega) | (simp_all; done) | (simp_all; omega)) | exact le_rfl' _
  try simp only [bsimp] at hg10_2
  refine OX ?_
  refine OO ?_
  refine OW cl17 (w_impl_Decimal (decOf s 0 : Int)) ?_
  refine OX ?_
  refine OO ?_
  iterate 2 (refine EV ?_)
  refine ON ?_
  refine ⟨rfl, ?_, rfl, rfl⟩
  (repeat (first | exact trivial | refine leC ?_ | refine leK ?_ ?_)) <;> first | (refine .inl (congrArg V.bool ?_); first | (simp [*]; done) | (simp [*] <;> omega) | (simp_all; done) | (simp_all; omega)) | exact le_rfl' _
 refine OC (fun hb10 => ?_) (fun hb10 => ?_)
 ·
  try simp only [bsimp] at hb10
  have hc : ¬ (decOf s 0 ≤ 1000000000 ∧ decimal (decOf s 0 : Int) = s) := by simpa using hb10
  rw [if_neg hc]
  refine OQ ?_
  iterate 2 (refine EV ?_)
  refine ON ?_
  refine Ok.ret ?_
  with_reducible repeat (first | refine thenQ_ret ?_ | refine blockQ_ret ?_)
  refine RT ?_
  first | rfl | (simp [V.erase, V.trav, V.travL, packV, zz, zf, zy]; done)
 try simp only [bsimp] at hb10
 have hc : decOf s 0 ≤ 1000000000 ∧ decimal (decOf s 0 : Int) = s := by simpa using hb10
 rw [if_pos hc]
 refine Ok.skip ?_
 refine OQ ?_
 iterate 3 (refine EV ?_)
 refine ON ?_
 refine Ok.ret ?_
 with_reducible repeat (first | refine thenQ_ret ?_ | refine blockQ_ret ?_)
 refine RT ?_
 first | rfl | (simp [V.erase, V.trav, V.travL, packV, zz, zf, zy]; done)
end Go.Proofs.YtliiphpbfambcaaGreatDoor.K

/- Walks: events drawn, and the lines that tell them. Printed by w2.py. -/
namespace Go.Proofs.YtliiphpbfambcaaGreatDoor.K
open Go Go.RowKit
set_option linter.unusedVariables false
set_option linter.unusedSimpArgs false
set_option maxHeartbeats 4000000
set_option maxRecDepth 20000
theorem c_spec_l15Line (c : Cur) (L : Nat) (hb : c.b.length ≤ 4611686018427387904) {h : List V} {n : Nat} (hlt : Ahd n h) (hL : L + 1 < n) : OkCall Tryz.prog 46 [.ptr (L + 1) 0 0 (cCur c)] h n (fun r h1 n1 => r = .str (pickS c lines15).1 ∧ h1 = V.updL (L + 1) 0 (cCur (pickS c lines15).2) h ∧ n1 = n + 1) := by
 have nq01 : ((L + 1 : Nat) = n) = False := eq_false (by omega)
 have nq02 : ((L + 1 : Nat) = 0) = False := eq_false (by omega)
 have nq10 : ((n : Nat) = L + 1) = False := eq_false (by omega)
 have nq12 : ((n : Nat) = 0) = False := eq_false (by omega)
 have nq20 : ((0 : Nat) = L + 1) = False := eq_false (by omega)
 have nq21 : ((0 : Nat) = n) = False := eq_false (by omega)
 refine OkCall.enter' tab_ok Tryz.func46 rfl (t := [.ptr (L + 1) 0 0 (cCur c), .any, .any, .any, .any, .any]) rfl ?_
 refine OQ ?_
 refine EV ?_
 refine ON ?_
 refine OQ ?_
 refine EV ?_
 refine OkOps.ev tab_ok rfl (ev_bs (by simp only [kT] <;> rfl) (by simp only [kT] <;> rfl) (by decide) (by decide) (by simp only [kE, kT, kL, kC, List.map_cons, List.map_nil] <;> rfl) (by simp only [kfe, beq_self_eq_true, Bool.and_true, Bool.true_and, decide_true, Nat.zero_add, Nat.lt_add_one, Nat.reduceLT, Nat.reduceAdd, Nat.zero_lt_succ, if_true, ↓reduceIte] <;> rfl)) (by simp only [kP] <;> rfl) ?_
 refine OkOps.upd rfl rfl (by simp only [kE, kT, kL, kC] <;> rfl) (by simp only [kE, kT, kL, kC] <;> rfl) cl64 (fun h => c_spec_l01Pick c lines15 L n hb (by decide) (by omega)) (by simp only [eq_self, V.updL, V.travL, V.travLL, V.trav, updS, updP, and_self, true_and, and_true, false_and, and_false, Nat.reduceEqDiff, Nat.reduceSub, Nat.le_refl, Nat.zero_le, ↓reduceIte, if_true, if_false, kP, zz, zf, zy, zev, nq01, nq02, nq10, nq12, nq20, nq21] <;> rfl) (rfl) ?_
 refine EV ?_
 refine ON ?_
 refine Ok.ret ?_
 with_reducible repeat (first | refine thenQ_ret ?_ | refine blockQ_ret ?_)
 refine RT ?_
 exact ⟨rfl, rfl, rfl⟩
theorem x_spec_l23Show (e : Event) (he : e.text.length ≤ 100) : WeakX Tryz.prog 25 [.agg (cEvent e)] (Str) (fun y => .str y) (fun y => y.length ≤ 200) := by
 have hd1 := decimal_len e.place
 have hd2 := decimal_len e.num
 refine WeakX.enter tab_ok Tryz.func25 rfl (.inr (by simp [V.labelsL, V.labels, V.labelsLL, zz, zf, zy, or_imp, forall_and])) (t := [.agg (cEvent e), .any, .any, .any, .any, .any, .any, .any, .any, .any, .any, .any, .any, .any, .any, .any, .any, .any, .any, .any, .any, .any, .any, .any, .any, .any, .any, .any, .any, .any, .any, .any, .any, .any, .any, .any, .any, .any, .any, .any, .any, .any, .any, .any, .any, .any, .any, .any, .any, .any, .any, .any, .any, .any, .any, .any, .any, .any, .any, .any, .any, .any, .any, .any, .any, .any, .any, .any, .any, .any, .any, .any, .any, .any, .any, .any, .any, .any, .any, .any, .any, .any, .any, .any]) rfl ?_
 refine OQ ?_
 iterate 2 (refine EV ?_)
 refine ON ?_
 refine OQ ?_
 iterate 2 (refine EV ?_)
 refine OW cl48 (w_spec_Decimal e.place) ?_
 refine OkOps.ev tab_ok rfl (ev_cat (by simp only [kE, kT, kL, kC] <;> rfl) (by simp only [kE, kT, kL, kC] <;> rfl) (by first | omega | (simp only [List.length_append, List.length_cons, List.length_nil, List.length_take, List.length_drop] at *; omega))) (by simp only [kP] <;> rfl) ?_
 refine EV ?_
 refine ON ?_
 refine OQ ?_
 iterate 2 (refine EV ?_)
 refine OW cl48 (w_spec_Decimal e.num) ?_
 refine OkOps.ev tab_ok rfl (ev_cat (by simp only [kE, kT, kL, kC] <;> rfl) (by simp only [kE, kT, kL, kC] <;> rfl) (by first | omega | (simp only [List.length_append, List.length_cons, List.length_nil, List.length_take, List.length_drop] at *; omega))) (by simp only [kP] <;> rfl) ?_
 refine EV ?_
 refine ON ?_
 refine Ok.seq ?_
 refine OQ ?_
 iterate 2 (refine EV ?_)
 refine ON ?_
 refine Ok.block ?_
 refine OQ ?_
 iterate 2 (refine EV ?_)
 refine ON ?_
 refine OC (fun hb4 => ?_) (fun hb4 => ?_)
 ·
  try simp only [bsimp] at hb4
  refine OQ ?_
  refine EV ?_
  refine OkOps.ev tab_ok rfl (ev_cat (by simp only [kE, kT, kL, kC] <;> rfl) (by simp only [kE, kT, kL, kC] <;> rfl) (by first | omega | (simp only [List.length_append, List.length_cons, List.length_nil, List.length_take, List.length_drop] at *; omega))) (by simp only [kP] <;> rfl) ?_
  refine EV ?_
  refine OkOps.ev tab_ok rfl (ev_cat (by simp only [kE, kT, kL, kC] <;> rfl) (by simp only [kE, kT, kL, kC] <;> rfl) (by first | omega | (simp only [List.length_append, List.length_cons, List.length_nil, List.length_take, List.length_drop] at *; omega))) (by simp only [kP] <;> rfl) ?_
  refine EV ?_
  refine ON ?_
  refine Ok.ret ?_
  with_reducible repeat (first | refine thenQ_ret ?_ | refine blockQ_ret ?_)
  refine RT ?_
  exact ⟨_, by simp only [List.length_append, List.length_cons, List.length_nil]; omega, rfl⟩
 try simp only [bsimp] at hb4
 refine OQ ?_
 iterate 2 (refine EV ?_)
 refine ON ?_
 refine OC (fun hb6 => ?_) (fun hb6 => ?_)
 ·
  try simp only [bsimp] at hb6
  refine OQ ?_
  refine EV ?_
  refine ON ?_
  refine Ok.ret ?_
  with_reducible repeat (first | refine thenQ_ret ?_ | refine blockQ_ret ?_)
  refine RT ?_
  exact ⟨_, by simp only [List.length_append, List.length_cons, List.length_nil]; omega, rfl⟩
 try simp only [bsimp] at hb6
 refine OQ ?_
 iterate 2 (refine EV ?_)
 refine ON ?_
 refine OC (fun hb8 => ?_) (fun hb8 => ?_)
 ·
  try simp only [bsimp] at hb8
  refine OQ ?_
  refine EV ?_
  refine OkOps.ev tab_ok rfl (ev_cat (by simp only [kE, kT, kL, kC] <;> rfl) (by simp only [kE, kT, kL, kC] <;> rfl) (by first | omega | (simp only [List.length_append, List.length_cons, List.length_nil, List.length_take, List.length_drop] at *; omega))) (by simp only [kP] <;> rfl) ?_
  refine EV ?_
  refine ON ?_
  refine Ok.ret ?_
  with_reducible repeat (first | refine thenQ_ret ?_ | refine blockQ_ret ?_)
  refine RT ?_
  exact ⟨_, by simp only [List.length_append, List.length_cons, List.length_nil]; omega, rfl⟩
 try simp only [bsimp] at hb8
 refine OQ ?_
 iterate 2 (refine EV ?_)
 refine ON ?_
 refine OC (fun hb10 => ?_) (fun hb10 => ?_)
 ·
  try simp only [bsimp] at hb10
  refine OQ ?_
  refine EV ?_
  refine OkOps.ev tab_ok rfl (ev_cat (by simp only [kE, kT, kL, kC] <;> rfl) (by simp only [kE, kT, kL, kC] <;> rfl) (by first | omega | (simp only [List.length_append, List.length_cons, List.length_nil, List.length_take, List.length_drop] at *; omega))) (by simp only [kP] <;> rfl) ?_
  refine EV ?_
  refine ON ?_
  refine Ok.ret ?_
  with_reducible repeat (first | refine thenQ_ret ?_ | refine blockQ_ret ?_)
  refine RT ?_
  exact ⟨_, by simp only [List.length_append, List.length_cons, List.length_nil]; omega, rfl⟩
 try simp only [bsimp] at hb10
 refine OQ ?_
 iterate 2 (refine EV ?_)
 refine ON ?_
 refine OC (fun hb12 => ?_) (fun hb12 => ?_)
 ·
  try simp only [bsimp] at hb12
  refine OQ ?_
  refine EV ?_
  refine OkOps.ev tab_ok rfl (ev_cat (by simp only [kE, kT, kL, kC] <;> rfl) (by simp only [kE, kT, kL, kC] <;> rfl) (by first | omega | (simp only [List.length_append, List.length_cons, List.length_nil, List.length_take, List.length_drop] at *; omega))) (by simp only [kP] <;> rfl) ?_
  refine EV ?_
  refine ON ?_
  refine Ok.ret ?_
  with_reducible repeat (first | refine thenQ_ret ?_ | refine blockQ_ret ?_)
  refine RT ?_
  exact ⟨_, by simp only [List.length_append, List.length_cons, List.length_nil]; omega, rfl⟩
 try simp only [bsimp] at hb12
 refine OQ ?_
 iterate 2 (refine EV ?_)
 refine ON ?_
 refine OC (fun hb14 => ?_) (fun hb14 => ?_)
 ·
  try simp only [bsimp] at hb14
  refine OQ ?_
  refine EV ?_
  refine OkOps.ev tab_ok rfl (ev_cat (by simp only [kE, kT, kL, kC] <;> rfl) (by simp only [kE, kT, kL, kC] <;> rfl) (by first | omega | (simp only [List.length_append, List.length_cons, List.length_nil, List.length_take, List.length_drop] at *; omega))) (by simp only [kP] <;> rfl) ?_
  refine EV ?_
  refine ON ?_
  refine Ok.ret ?_
  with_reducible repeat (first | refine thenQ_ret ?_ | refine blockQ_ret ?_)
  refine RT ?_
  exact ⟨_, by simp only [List.length_append, List.length_cons, List.length_nil]; omega, rfl⟩
 try simp only [bsimp] at hb14
 refine OQ ?_
 iterate 2 (refine EV ?_)
 refine ON ?_
 refine OC (fun hb16 => ?_) (fun hb16 => ?_)
 ·
  try simp only [bsimp] at hb16
  refine OQ ?_
  refine EV ?_
  refine OkOps.ev tab_ok rfl (ev_cat (by simp only [kE, kT, kL, kC] <;> rfl) (by simp only [kE, kT, kL, kC] <;> rfl) (by first | omega | (simp only [List.length_append, List.length_cons, List.length_nil, List.length_take, List.length_drop] at *; omega))) (by simp only [kP] <;> rfl) ?_
  refine EV ?_
  refine OkOps.ev tab_ok rfl (ev_cat (by simp only [kE, kT, kL, kC] <;> rfl) (by simp only [kE, kT, kL, kC] <;> rfl) (by first | omega | (simp only [List.length_append, List.length_cons, List.length_nil, List.length_take, List.length_drop] at *; omega))) (by simp only [kP] <;> rfl) ?_
  refine EV ?_
  refine ON ?_
  refine Ok.ret ?_
  with_reducible repeat (first | refine thenQ_ret ?_ | refine blockQ_ret ?_)
  refine RT ?_
  exact ⟨_, by simp only [List.length_append, List.length_cons, List.length_nil]; omega, rfl⟩
 try simp only [bsimp] at hb16
 refine OQ ?_
 iterate 2 (refine EV ?_)
 refine ON ?_
 refine OC (fun hb18 => ?_) (fun hb18 => ?_)
 ·
  try simp only [bsimp] at hb18
  refine OQ ?_
  refine EV ?_
  refine OkOps.ev tab_ok rfl (ev_cat (by simp only [kE, kT, kL, kC] <;> rfl) (by simp only [kE, kT, kL, kC] <;> rfl) (by first | omega | (simp only [List.length_append, List.length_cons, List.length_nil, List.length_take, List.length_drop] at *; omega))) (by simp only [kP] <;> rfl) ?_
  refine EV ?_
  refine ON ?_
  refine Ok.ret ?_
  with_reducible repeat (first | refine thenQ_ret ?_ | refine blockQ_ret ?_)
  refine RT ?_
  exact ⟨_, by simp only [List.length_append, List.length_cons, List.length_nil]; omega, rfl⟩
 try simp only [bsimp] at hb18
 refine OQ ?_
 iterate 2 (refine EV ?_)
 refine ON ?_
 refine OC (fun hb20 => ?_) (fun hb20 => ?_)
 ·
  try simp only [bsimp] at hb20
  refine OQ ?_
  refine EV ?_
  refine OkOps.ev tab_ok rfl (ev_cat (by simp only [kE, kT, kL, kC] <;> rfl) (by simp only [kE, kT, kL, kC] <;> rfl) (by first | omega | (simp only [List.length_append, List.length_cons, List.length_nil, List.length_take, List.length_drop] at *; omega))) (by simp only [kP] <;> rfl) ?_
  refine EV ?_
  refine OkOps.ev tab_ok rfl (ev_cat (by simp only [kE, kT, kL, kC] <;> rfl) (by simp only [kE, kT, kL, kC] <;> rfl) (by first | omega | (simp only [List.length_append, List.length_cons, List.length_nil, List.length_take, List.length_drop] at *; omega))) (by simp only [kP] <;> rfl) ?_
  refine EV ?_
  refine ON ?_
  refine Ok.ret ?_
  with_reducible repeat (first | refine thenQ_ret ?_ | refine blockQ_ret ?_)
  refine RT ?_
  exact ⟨_, by simp only [List.length_append, List.length_cons, List.length_nil]; omega, rfl⟩
 try simp only [bsimp] at hb20
 refine Ok.skip ?_
 refine OQ ?_
 refine EV ?_
 refine ON ?_
 refine Ok.seq ?_
 refine OQ ?_
 refine EV ?_
 refine ON ?_
 refine Ok.block ?_
 refine Ok.bump (n' := 2) (by omega) ?_
 refine Ok.loopWZ (τ := Nat × Str) (fun x => [(5, .str x.2), (6, .int .i64 (x.1 : Int))]) [57, 58, 59, 60, 61, 62, 63, 64, 65, 66, 67, 68, 69, 70, 71, 72, 73, 74, 75, 76, 77, 78] (fun x => by simp only [kover] <;> rfl) (fun x => x.1 ≤ e.text.length ∧ x.2.length ≤ x.1) (fun x => e.text.length - x.1) (0, []) (by omega) (by (repeat (first | exact trivial | refine leC ?_ | refine leK ?_ ?_)) <;> first | (exact le_rfl' _) | exact le_rfl' _) (⟨Nat.zero_le _, Nat.le_refl _⟩) ?_
 rintro ⟨i, t⟩ ⟨h1, h2⟩
 dsimp only at h1 h2 ⊢
 refine Ok.seq ?_
 refine OQ ?_
 iterate 6 (refine EV ?_)
 refine OP (d := 62) (fun hg24_5 => ?_) (fun hg24_5 => ?_)
 ·
  try simp only [bsimp] at hg24_5
  have hi : i < e.text.length := by omega
  iterate 3 (refine OX ?_)
  refine OO ?_
  refine OkOps.ev tab_ok rfl (ev_byte_lt (by simp only [kE, kT, kL, kC] <;> rfl) (by simp only [kE, kT, kL, kC] <;> rfl) (hi) rfl) (by simp only [kP] <;> rfl) ?_
  refine OO ?_
  iterate 2 (refine EV ?_)
  refine ON ?_
  refine OC (fun hb24 => ?_) (fun hb24 => ?_)
  ·
   try simp only [bsimp] at hb24
   have hi : i < e.text.length := by first | omega | (simp_all; omega) | simp_all
   refine Ok.skip ?_
   refine Ok.seq ?_
   refine Ok.block ?_
   refine Ok.region ?_
   iterate 5 (refine EV ?_)
   refine OkOps.ev tab_ok rfl (by simp only [kE, kT, kL, kC, wrap_succ (show i < 9223372036854775807 by omega)] <;> rfl) (by simp only [kP] <;> rfl) ?_
   refine OkOps.ev tab_ok rfl (ev_cut (by simp only [kE, kT, kL, kC] <;> rfl) (by simp only [kE, kT, kL, kC] <;> rfl) (by simp only [kE, kT, kL, kC] <;> rfl) rfl (by omega) (by omega)) (by simp only [kP] <;> rfl) ?_
   refine OkOps.ev tab_ok rfl (ev_cat (by simp only [kE, kT, kL, kC] <;> rfl) (by simp only [kE, kT, kL, kC] <;> rfl) (by first | omega | (simp only [List.length_append, List.length_cons, List.length_nil, List.length_take, List.length_drop] at *; omega))) (by simp only [kP] <;> rfl) ?_
   refine EV ?_
   refine ON ?_
   refine Ok.region ?_
   iterate 3 (refine EV ?_)
   refine ON ?_
   refine ⟨(i + 1, t ++ (e.text.take (i + 1)).drop i), ?_, rfl, ⟨by dsimp only; omega, by simp only [List.length_append, List.length_drop, List.length_take]; omega⟩, (by dsimp only; omega)⟩
   simp only [V.renL, V.travL, V.travLL, V.trav, frz, zz, zf, zy, zev, Nat.reduceLeDiff, ↓reduceIte]
   (repeat (first | exact trivial | refine leC ?_ | refine leK ?_ ?_)) <;> first | (first | exact le_rfl' _ | (rw [wrap_succ (by omega)]; exact le_rfl' _)) | exact le_rfl' _
  try simp only [bsimp] at hb24
  refine Ok.exit ?_
  refine OQ ?_
  refine EV ?_
  iterate 2 (refine OkOps.ev tab_ok rfl (ev_cat (by simp only [kE, kT, kL, kC] <;> rfl) (by simp only [kE, kT, kL, kC] <;> rfl) (by first | omega | (simp only [List.length_append, List.length_cons, List.length_nil, List.length_take, List.length_drop] at *; omega))) (by simp only [kP] <;> rfl) ?_)
  refine EV ?_
  refine OkOps.ev tab_ok rfl (ev_cat (by simp only [kE, kT, kL, kC] <;> rfl) (by simp only [kE, kT, kL, kC] <;> rfl) (by first | omega | (simp only [List.length_append, List.length_cons, List.length_nil, List.length_take, List.length_drop] at *; omega))) (by simp only [kP] <;> rfl) ?_
  refine EV ?_
  refine ON ?_
  refine Ok.ret ?_
  with_reducible repeat (first | refine thenQ_ret ?_ | refine blockQ_ret ?_)
  refine RT ?_
  exact ⟨_, by simp only [List.length_append, List.length_cons, List.length_nil]; omega, rfl⟩
 try simp only [bsimp] at hg24_5
 iterate 5 (refine OU ?_)
 refine EV ?_
 refine ON ?_
 refine Ok.cond_false (by simp only [kE, kT, kL, kC] <;> rfl) ?_
 refine Ok.exit ?_
 refine OQ ?_
 refine EV ?_
 iterate 2 (refine OkOps.ev tab_ok rfl (ev_cat (by simp only [kE, kT, kL, kC] <;> rfl) (by simp only [kE, kT, kL, kC] <;> rfl) (by first | omega | (simp only [List.length_append, List.length_cons, List.length_nil, List.length_take, List.length_drop] at *; omega))) (by simp only [kP] <;> rfl) ?_)
 refine EV ?_
 refine OkOps.ev tab_ok rfl (ev_cat (by simp only [kE, kT, kL, kC] <;> rfl) (by simp only [kE, kT, kL, kC] <;> rfl) (by first | omega | (simp only [List.length_append, List.length_cons, List.length_nil, List.length_take, List.length_drop] at *; omega))) (by simp only [kP] <;> rfl) ?_
 refine EV ?_
 refine ON ?_
 refine Ok.ret ?_
 with_reducible repeat (first | refine thenQ_ret ?_ | refine blockQ_ret ?_)
 refine RT ?_
 exact ⟨_, by simp only [List.length_append, List.length_cons, List.length_nil]; omega, rfl⟩
end Go.Proofs.YtliiphpbfambcaaGreatDoor.K
