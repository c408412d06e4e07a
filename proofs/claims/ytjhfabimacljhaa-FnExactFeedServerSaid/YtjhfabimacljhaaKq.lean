/- Calls used: a pure function's call, any function's call, as an operation. Nothing here depends on the program. -/
import Derived.Test.YtjhfabimacljhaaKp
namespace Go.Proofs.Ytjhfabimacljhaa.K
open Go Go.RowKit

section
variable {P : Program}
/-- A pure function's call leaves new memory, named from r on. -/
theorem Pure.new {f : FuncId} {args : List V} {x : V} (hd : V.dat x = true) (hp : Pure P f (V.eraseL args) x) {base : Base} {σ : Sig} {w : World} {vs : List Value} {r : Nat} (hr : 1 ≤ r) (hargs : Ms base σ w args vs) :
    Calls P f vs.toArray w fun e w' => ∃ u, e = .returned u ∧ New base σ w r (V.cnt x) (V.tag r x) u w' := by
  refine (hp w vs (hargs.erase fun _ h => h)).mono ?_
  rintro e w' ⟨σ1, v, n1, rfl, hm, inv1, bel1⟩
  obtain ⟨σ2, hsub, hm2⟩ := relabel inv1.inj (V.tag r x) (V.tag 1 x) v hm (by rw [tag_erase x 1 hd, tag_erase x r hd]) (tag_dat x r hd)
    (by rw [tag_labels, List.mem_range'_1]; omega) (by rw [tag_labels, List.mem_range'_1]; omega) (by rw [tag_labels]; exact List.nodup_range') (by rw [tag_labels]; exact List.nodup_range')
  have hdom : ∀ L b o s, σ2 L = some (b, o, s) → r ≤ L ∧ L < r + V.cnt x := by
    intro L b o s hL
    have := (hsub.dom L b o s hL).1
    rw [tag_labels, List.mem_range'_1] at this
    exact this
  let σ' : Sig := fun L => if r ≤ L ∧ L < r + V.cnt x then σ2 L else σ L
  have hin : ∀ L, r ≤ L → L < r + V.cnt x → σ' L = σ2 L := fun L h1 h2 => if_pos ⟨h1, h2⟩
  refine ⟨v, rfl, σ', bel1, fun L h => if_neg h, ?_, ?_, ?_⟩
  · intro L b o s h1 h2 hL
    rw [hin L h1 h2] at hL
    obtain ⟨_, L1, _, o1, s1, h1⟩ := hsub.dom L b o s hL
    exact inv1.own L1 b o1 s1 h1
  · intro L L' b o s o' s' h1 h2 h3 h4 hL hL'
    rw [hin L h1 h2] at hL
    rw [hin L' h3 h4] at hL'
    exact hsub.inj L L' b o s o' s' hL hL'
  · refine M.more (fun L b o s hL => ?_) (by rw [tag_labels, List.mem_range'_1]; omega) hm2
    obtain ⟨h1, h2⟩ := hdom L b o s hL
    rw [hin L h1 h2]
    exact hL

/-- A call that looks at arguments without names, writes nothing that is there, and hands back what reads as r: new memory, or parts of the arguments. -/
def Weak (P : Program) (f : FuncId) (args : List V) (r : V) : Prop :=
  ∀ base σ w vs, (∀ k, base.bad k → k < w.heap.size) → σ 0 = none → (∀ L b o s, σ L = some (b, o, s) → b < w.heap.size) → Ms base σ w args vs → Calls P f vs.toArray w fun e w' => ∃ v, e = .returned v ∧ M base σ w' r v ∧ Below w.heap.size w w'

theorem Weak.of {f : FuncId} {args : List V} {r : V} (hz : ∀ L ∈ V.labelsL args, L = 0) (hc : OkCall P f args [] 1 fun x _ _ => V.erase x = r) : Weak P f args r := by
  intro base σ w vs hbad h0 hσ hargs
  let base1 : Base := ⟨w.heap.size, fun k => base.bad k ∨ ∃ L b o s, σ L = some (b, o, s) ∧ b = k, fun k hk => by
    rcases hk with hk | ⟨L, b, o, s, hs, rfl⟩
    · exact hbad k hk
    · exact hσ L b o s hs⟩
  have inv : Inv base1 noSig w 1 := ⟨Nat.le_refl _, Nat.le_refl _, rfl, fun _ _ => rfl, fun _ _ _ _ h => by simp [noSig] at h, fun _ _ _ _ _ _ _ h => by simp [noSig] at h⟩
  have hargs1 : Ms base1 noSig w args vs := by
    refine ⟨hargs.1, fun i x u hx hu => (hargs.2 i x u hx hu).as fun L hL sz pos room ad hat => ?_⟩
    have hL0 := hz L (labels_in1 hx hL)
    rcases hat with ⟨_, hold⟩ | ⟨b, o, _, _, _, hs, _⟩
    · refine .inl ⟨hL0, hold.1, fun _ _ _ _ h => by simp [noSig] at h, ?_⟩
      rintro (hk | ⟨L, b, o, s, hs, hb⟩)
      · exact hold.2.2 hk
      · exact hold.2.1 L b o s hs hb
    · rw [hL0, h0] at hs; cases hs
  refine (hc base1 w [] noSig w vs inv hargs1 ⟨rfl, by simp⟩ (Below.refl _ _)).mono ?_
  rintro e w' ⟨x, h', n', σ', v, rfl, rfl, hm, _, inv', bel⟩
  refine ⟨v, rfl, hm.erase fun L _ sz pos room ad hat => ?_, bel⟩
  rcases hat with ⟨_, hold⟩ | ⟨b, o, cur, e, fr, hs, rfl, hh, _⟩
  · exact ⟨hold.1, fun L b o s hs hb => hold.2.2 (.inr ⟨L, b, o, s, hs, hb⟩), fun hk => hold.2.2 (.inl hk)⟩
  · have hge := (inv'.own L b o sz hs).1
    have hge' : w.heap.size ≤ b := hge
    refine ⟨(inv'.own L b o sz hs).2, fun L2 b2 o2 s2 hs2 hb => ?_, fun hk => ?_⟩
    · have := hσ L2 b2 o2 s2 hs2
      have hb' : b2 = b := hb
      omega
    · have : b < w.heap.size := hbad b hk
      omega
theorem Pure.weak {f : FuncId} {args : List V} {r : V} (hd : V.dat r = true) (hp : Pure P f args r) (hargs : V.eraseL args = args) : Weak P f args (V.erase r) := by
  intro base σ w vs hbad h0 hσ hm
  refine (hp w vs (by have := hm.erase (base' := bare w.heap.size) (fun _ h => h); rw [hargs] at this; exact this)).mono ?_
  rintro e w' ⟨σ1, v, n1, rfl, hm1, inv1, bel1⟩
  refine ⟨v, rfl, ?_, bel1⟩
  rw [← tag_erase r 1 hd]
  refine hm1.erase fun L hL sz pos room ad hat => ?_
  rcases hat with ⟨h0, _⟩ | ⟨b, o, cur, e, fr, hs, rfl, hh, _⟩
  · rw [tag_labels, List.mem_range'_1] at hL; omega
  · have hge : w.heap.size ≤ b := (inv1.own L b o sz hs).1
    refine ⟨(inv1.own L b o sz hs).2, fun L2 b2 o2 s2 hs2 hb => ?_, fun hk => ?_⟩
    · have := hσ L2 b2 o2 s2 hs2
      have hb' : b2 = b := hb
      omega
    · have : b < w.heap.size := hbad b hk
      omega

/-- That a function has a body, and its name is no word of the machine's. -/
def Callable (P : Program) (f : FuncId) : Prop := ∃ fn, P.funcs[f]? = some fn ∧ fn.body.isNone = false ∧ (fn.name == "runtime.NumGoroutine") = false

theorem Ms.append {base : Base} {σ : Sig} {w : World} {t1 t2 : List V} {l1 l2 : List Value} (h1 : Ms base σ w t1 l1) (h2 : Ms base σ w t2 l2) : Ms base σ w (t1 ++ t2) (l1 ++ l2) := by
  refine ⟨by simp [h1.1, h2.1], fun i x u hx hu => ?_⟩
  rw [List.getElem?_append] at hx hu
  rw [← h1.1] at hu
  split at hx
  · rename_i hi
    rw [if_pos hi] at hu
    exact h1.2 i x u hx hu
  · rename_i hi
    rw [if_neg hi] at hu
    exact h2.2 _ x u hx hu
theorem Ms.split {base : Base} {σ : Sig} {w : World} {t1 t2 : List V} {l1 l2 : List Value} (hl : t1.length = l1.length) (h : Ms base σ w (t1 ++ t2) (l1 ++ l2)) : Ms base σ w t1 l1 ∧ Ms base σ w t2 l2 := by
  have hl2 : t2.length = l2.length := by have := h.1; simp at this; omega
  refine ⟨⟨hl, fun i x u hx hu => h.2 i x u ?_ ?_⟩, ⟨hl2, fun i x u hx hu => h.2 (t1.length + i) x u ?_ ?_⟩⟩
  · rw [List.getElem?_append_left (List.getElem?_eq_some_iff.1 hx).1]; exact hx
  · rw [List.getElem?_append_left (List.getElem?_eq_some_iff.1 hu).1]; exact hu
  · rw [List.getElem?_append_right (by omega)]; simpa using hx
  · rw [List.getElem?_append_right (by omega), hl]; simpa using hu

variable {t h : List V} {n : Nat} {Q : Exit → List V → List V → Nat → Prop} {ops : Array Oper} {o : Oper} {l : List Oper}
/-- A call, of a function or of a function's value. -/
theorem call_wp {fx : Operand} {args : Array Operand} {ts : Array TypeId} {f : FuncId} {caps : List V} (ho : o.op = .call ⟨.value fx, args, ts⟩) (hf : opnd t fx = .fn f caps) (hcl : Callable P f) {R : V → List V → Nat → Prop}
    (hc : OkCall P f (args.toList.map (opnd t) ++ caps) (t ++ h) n R) {base : Base} {w0 : World} {hv : List Value} {σ : Sig} {a : Act} {w : World} (g : Good base w0 hv t h n σ a w) (K : Act → World → Prop) (Q : Exit → Act → World → Prop)
    (hK : ∀ r t1 h1 n1 σ' a' w', R r (t1 ++ h1) n1 → t1.length = t.length → Good base w0 hv (putV t1 o.dst r) h1 n1 σ' a' w' → K a' w') : o.wp P a w K Q := by
  obtain ⟨fn, hfn, hbody, hname⟩ := hcl
  have hm := opnd_M g.ts fx
  rw [hf] at hm
  obtain ⟨cs, hcs, hfv⟩ : ∃ cs : List Value, Ms base σ w caps cs ∧ a.eval fx = .func (.func f) #[] cs.toArray := by
    generalize a.eval fx = fv at hm
    cases hm with
    | fn _ _ vs h1 h6 => exact ⟨vs, ⟨h1, h6⟩, rfl⟩
  have hargs : Ms base σ w (args.toList.map (opnd t)) (args.toList.map a.eval) := by
    refine ⟨by simp, fun i x u hx hu => ?_⟩
    rw [List.getElem?_map] at hx hu
    obtain ⟨q, hq, rfl⟩ := Option.map_eq_some_iff.1 hx
    rw [hq] at hu
    obtain rfl := Option.some.inj hu
    exact opnd_M g.ts q
  have hcall := hc base w0 (a.tmps.toList ++ hv) σ w (args.toList.map a.eval ++ cs) g.inv (hargs.append hcs) (g.ts.append g.hs) g.bel
  have hrun : (execOp a.eval o).run P w = .ok (.enter f (args.toList.map a.eval ++ cs).toArray) w := by
    have hargs' : (#[] ++ args.map a.eval ++ cs.toArray : Array Value) = (args.toList.map a.eval ++ cs).toArray := by
      apply Array.ext'
      simp
    simp only [execOp, ho, resolve, hfv, Deferred.ofValue, Sem.run_bind, Sem.run_pure, Result.andThen_ok, invoke, callFunc, run_program, hfn, hname, hbody, Bool.false_eq_true, if_false, hargs']
  unfold Oper.wp
  rw [hrun, Oper.upon_enter]
  refine hcall.mono ?_
  rintro e w' ⟨r, h', n', σ', v, rfl, hR, hm, hh', inv', bel'⟩
  have hlen : h'.length = t.length + h.length := by
    have h1 := hh'.1
    have h2 := g.ts.1
    have h3 := g.hs.1
    simp only [List.length_append] at h1
    omega
  have htl : (h'.take t.length).length = t.length := by rw [List.length_take]; omega
  have hsplit : h'.take t.length ++ h'.drop t.length = h' := List.take_append_drop _ _
  rw [← hsplit] at hh' hR
  obtain ⟨hg1, hg2⟩ := Ms.split (by rw [htl]; exact g.ts.1) hh'
  refine hK r _ _ n' σ' _ w' hR htl ⟨?_, hg2, by cases o.dst <;> exact g.dfr, bel', inv'⟩
  exact Ms.put (a := a) hg1 o.dst hm

/-- A call among operations, whatever it says of its end. -/
theorem OkOps.call {fx : Operand} {args : Array Operand} {ts : Array TypeId} {f : FuncId} {caps : List V} (hg : o.guard = none) (ho : o.op = .call ⟨.value fx, args, ts⟩) (hf : opnd t fx = .fn f caps) (hcl : Callable P f)
    (hc : OkCall P f (args.toList.map (opnd t) ++ caps) (t ++ h) n fun r h' n' => ∀ t1 h1, h' = t1 ++ h1 → t1.length = t.length → OkOps P ops l (putV t1 o.dst r) h1 n' Q) : OkOps P ops (o :: l) t h n Q := by
  intro base w0 hv σ a w g
  unfold wpList
  rw [if_pos (wanted_none hg _)]
  exact .inl (call_wp ho hf hcl hc g _ _ fun r t1 h1 n1 σ' a' w' hR hl g' => hR t1 h1 rfl hl base w0 hv σ' a' w' g')
/-- A call whose end is known. -/
theorem OpOk.call {fx : Operand} {args : Array Operand} {ts : Array TypeId} {f : FuncId} {caps : List V} {r : V} {t1 h1 : List V} {n1 : Nat} (ho : o.op = .call ⟨.value fx, args, ts⟩) (hf : opnd t fx = .fn f caps) (hcl : Callable P f)
    (hl : t1.length = t.length) (hc : OkCall P f (args.toList.map (opnd t) ++ caps) (t ++ h) n fun r' h' n' => r' = r ∧ h' = t1 ++ h1 ∧ n' = n1) : OpOk P o t h n (putV t1 o.dst r) h1 n1 := by
  intro base w0 hv σ a w g K Q hK
  refine call_wp ho hf hcl hc g K Q ?_
  rintro r' t2 h2 n2 σ' a' w' ⟨rfl, he, rfl⟩ hl2 g'
  obtain ⟨rfl, rfl⟩ := List.append_inj he (by omega)
  exact hK σ' a' w' g'
/-- A call of a pure function. -/
theorem OpS.pure {fx : Operand} {args : Array Operand} {ts : Array TypeId} {f : FuncId} {caps : List V} {x : V} {r : Nat} (ho : o.op = .call ⟨.value fx, args, ts⟩) (hf : opnd t fx = .fn f caps) (hcl : Callable P f) (hd : V.dat x = true)
    (hp : Pure P f (V.eraseL (args.toList.map (opnd t) ++ caps)) x) : OpS P o t r (V.tag r x) (V.cnt x) := by
  intro base σ w ρ _ _ _ hρ hr _
  obtain ⟨fn, hfn, hbody, hname⟩ := hcl
  have hm := hρ fx
  rw [hf] at hm
  obtain ⟨cs, hcs, hfv⟩ : ∃ cs : List Value, Ms base σ w caps cs ∧ ρ fx = .func (.func f) #[] cs.toArray := by
    generalize ρ fx = fv at hm
    cases hm with
    | fn _ _ vs h1 h6 => exact ⟨vs, ⟨h1, h6⟩, rfl⟩
  have hargs : Ms base σ w (args.toList.map (opnd t)) (args.toList.map ρ) := by
    refine ⟨by simp, fun i x u hx hu => ?_⟩
    rw [List.getElem?_map] at hx hu
    obtain ⟨q, hq, rfl⟩ := Option.map_eq_some_iff.1 hx
    rw [hq] at hu
    obtain rfl := Option.some.inj hu
    exact hρ q
  refine .inr ⟨f, (args.toList.map ρ ++ cs).toArray, ?_, hp.new hd hr (hargs.append hcs)⟩
  have hargs' : (#[] ++ args.map ρ ++ cs.toArray : Array Value) = (args.toList.map ρ ++ cs).toArray := by
    apply Array.ext'
    simp
  simp only [execOp, ho, resolve, hfv, Deferred.ofValue, Sem.run_bind, Sem.run_pure, Result.andThen_ok, invoke, callFunc, run_program, hfn, hname, hbody, Bool.false_eq_true, if_false, hargs']
theorem OpOk.pure {fx : Operand} {args : Array Operand} {ts : Array TypeId} {f : FuncId} {caps : List V} {r : V} (ho : o.op = .call ⟨.value fx, args, ts⟩) (hf : opnd t fx = .fn f caps) (hcl : Callable P f) (hd : V.dat r = true)
    (hp : Pure P f (V.eraseL (args.toList.map (opnd t) ++ caps)) r) : OpOk P o t h n (putV t o.dst (V.tag n r)) h (n + V.cnt r) :=
  (OpS.pure ho hf hcl hd hp).ok
/-- A call of a weak function. -/
theorem OpS.weak {fx : Operand} {args : Array Operand} {ts : Array TypeId} {f : FuncId} {caps : List V} {x : V} {r : Nat} (ho : o.op = .call ⟨.value fx, args, ts⟩) (hf : opnd t fx = .fn f caps) (hcl : Callable P f)
    (hp : Weak P f (args.toList.map (opnd t) ++ caps) x) : OpS P o t r x 0 := by
  intro base σ w ρ hb h0 hσ hρ _ _
  obtain ⟨fn, hfn, hbody, hname⟩ := hcl
  have hm := hρ fx
  rw [hf] at hm
  obtain ⟨cs, hcs, hfv⟩ : ∃ cs : List Value, Ms base σ w caps cs ∧ ρ fx = .func (.func f) #[] cs.toArray := by
    generalize ρ fx = fv at hm
    cases hm with
    | fn _ _ vs h1 h6 => exact ⟨vs, ⟨h1, h6⟩, rfl⟩
  have hargs : Ms base σ w (args.toList.map (opnd t)) (args.toList.map ρ) := by
    refine ⟨by simp, fun i x u hx hu => ?_⟩
    rw [List.getElem?_map] at hx hu
    obtain ⟨q, hq, rfl⟩ := Option.map_eq_some_iff.1 hx
    rw [hq] at hu
    obtain rfl := Option.some.inj hu
    exact hρ q
  refine .inr ⟨f, (args.toList.map ρ ++ cs).toArray, ?_, (hp base σ w _ (fun k hk => Nat.lt_of_lt_of_le (base.lt k hk) hb) h0 hσ (hargs.append hcs)).mono ?_⟩
  · have hargs' : (#[] ++ args.map ρ ++ cs.toArray : Array Value) = (args.toList.map ρ ++ cs).toArray := by
      apply Array.ext'
      simp
    simp only [execOp, ho, resolve, hfv, Deferred.ofValue, Sem.run_bind, Sem.run_pure, Result.andThen_ok, invoke, callFunc, run_program, hfn, hname, hbody, Bool.false_eq_true, if_false, hargs']
  · rintro e w' ⟨v, rfl, hm, bel⟩
    exact ⟨v, rfl, σ, bel, fun _ _ => rfl, fun L _ _ _ h1 h2 => by omega, fun _ _ _ _ _ _ _ h1 h2 => by omega, hm⟩

/-- Names from k on are given up: nobody will write there. -/
def frz (k : Nat) (L : Nat) : Nat := if k ≤ L then 0 else L
def sigTo (k : Nat) (σ : Sig) : Sig := fun L => if k ≤ L then none else σ L
theorem Good.freeze {base : Base} {w0 : World} {hv : List Value} {σ : Sig} {a : Act} {w : World} (g : Good base w0 hv t h n σ a w) (k : Nat) (hk : 1 ≤ k) : Good base w0 hv (V.renL (frz k) t) (V.renL (frz k) h) k (sigTo k σ) a w := by
  have hsub : ∀ L b o s, sigTo k σ L = some (b, o, s) → L < k ∧ σ L = some (b, o, s) := by
    intro L b o s hs
    unfold sigTo at hs
    split at hs
    · cases hs
    · exact ⟨by omega, hs⟩
  have hat : ∀ L sz pos room ad, At base σ w L sz pos room ad → At base (sigTo k σ) w (frz k L) sz pos room ad := by
    intro L sz pos room ad hat
    rcases hat with ⟨rfl, hold⟩ | ⟨b, o, cur, e, fr, hs, rfl, hh, rest⟩
    · exact .inl ⟨by unfold frz; rw [if_neg (by omega)], hold.1, fun L b o s hs => hold.2.1 L b o s (hsub L b o s hs).2, hold.2.2⟩
    · unfold frz
      split
      · rename_i hkL
        have hown := g.inv.own L b o sz hs
        refine .inl ⟨rfl, hown.2, fun L2 b2 o2 s2 hs2 hb => ?_, fun hbad => ?_⟩
        · obtain ⟨h1, h2⟩ := hsub L2 b2 o2 s2 hs2
          have hb' : b2 = b := hb
          subst hb'
          have := g.inv.inj L2 L b2 _ _ _ _ h2 hs
          omega
        · have : b < base.lim := base.lt b hbad
          omega
      · rename_i hkL
        exact .inr ⟨b, o, cur, e, fr, by unfold sigTo; rw [if_neg hkL]; exact hs, rfl, hh, rest⟩
  have hms : ∀ {t : List V} {l : List Value}, Ms base σ w t l → Ms base (sigTo k σ) w (V.renL (frz k) t) l := by
    intro t l hm
    refine ⟨by unfold V.renL; rw [travL_len]; exact hm.1, fun i x u hx hu => ?_⟩
    unfold V.renL at hx
    rw [travL_get] at hx
    obtain ⟨x', hx', rfl⟩ := Option.map_eq_some_iff.1 hx
    exact (hm.2 i x' u hx' hu).ren (frz k) (fun L _ sz pos room ad h => hat L sz pos room ad h) (by unfold frz; rw [if_neg (by omega)])
  refine ⟨hms g.ts, hms g.hs, g.dfr, g.bel, ⟨g.inv.bs, hk, ?_, ?_, ?_, ?_⟩⟩
  · unfold sigTo; rw [if_neg (by omega)]; exact g.inv.zero
  · intro L hL; unfold sigTo; rw [if_pos hL]
  · intro L b o s hs; exact g.inv.own L b o s (hsub L b o s hs).2
  · intro L L' b o s o' s' h1 h2; exact g.inv.inj L L' b o s o' s' (hsub _ _ _ _ h1).2 (hsub _ _ _ _ h2).2
theorem Ok.freeze {c : Code} (k : Nat) (hk : 1 ≤ k) (ho : Ok P c (V.renL (frz k) t) (V.renL (frz k) h) k Q) : Ok P c t h n Q :=
  fun base w0 hv _ a w g => ho base w0 hv _ a w (g.freeze k hk)
theorem OkOps.freeze (k : Nat) (hk : 1 ≤ k) (ho : OkOps P ops l (V.renL (frz k) t) (V.renL (frz k) h) k Q) : OkOps P ops l t h n Q :=
  fun base w0 hv _ a w g => ho base w0 hv _ a w (g.freeze k hk)
end
end Go.Proofs.Ytjhfabimacljhaa.K
