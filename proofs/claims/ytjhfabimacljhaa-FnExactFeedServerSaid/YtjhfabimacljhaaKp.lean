/- Calls: what a function promises, and how it is shown and used. Nothing here depends on the program. -/
import Derived.Test.YtjhfabimacljhaaKo
namespace Go.Proofs.Ytjhfabimacljhaa.K
open Go Go.RowKit

/-- A call of f with these arguments, beside values h of the callers: what Q says of the result, of h and of the next label. -/
def OkCall (P : Program) (f : FuncId) (args h : List V) (n : Nat) (Q : V → List V → Nat → Prop) : Prop :=
  ∀ base w0 hv σ w vs, Inv base σ w n → Ms base σ w args vs → Ms base σ w h hv → Below base.lim w0 w →
    Calls P f vs.toArray w fun e w' => ∃ r h' n' σ' v, e = .returned v ∧ Q r h' n' ∧ M base σ' w' r v ∧ Ms base σ' w' h' hv ∧ Inv base σ' w' n' ∧ Below base.lim w0 w'
/-- Nobody's blocks. -/
def bare (n : Nat) : Base := ⟨n, fun _ => False, fun _ h => h.elim⟩
/-- A call that looks at label-free arguments, writes nothing that is there, and hands back new memory that reads as r. -/
def Pure (P : Program) (f : FuncId) (args : List V) (r : V) : Prop :=
  ∀ w vs, Ms (bare w.heap.size) noSig w args vs → Calls P f vs.toArray w fun e w' => ∃ σ' v n', e = .returned v ∧ M (bare w.heap.size) σ' w' (V.tag 1 r) v ∧ Inv (bare w.heap.size) σ' w' n' ∧ Below w.heap.size w w'

theorem OkCall.mono {P : Program} {f : FuncId} {args h : List V} {n : Nat} {Q Q' : V → List V → Nat → Prop} (hc : OkCall P f args h n Q) (hq : ∀ r h n, Q r h n → Q' r h n) : OkCall P f args h n Q' :=
  fun base w0 hv σ w vs i1 i2 i3 i4 => (hc base w0 hv σ w vs i1 i2 i3 i4).mono fun _ _ ⟨r, h', n', σ', v, e, q, rest⟩ => ⟨r, h', n', σ', v, e, hq _ _ _ q, rest⟩

/-- A result variable. -/
def resV (ti : Tab) (t : List V) : ResultVar → Option V
  | .tmp i => some (nth t i)
  | .cell p ty => match ti ty with | some i => loadV i (nth t p) | none => none
def resVs (ti : Tab) (t : List V) : List ResultVar → Option (List V)
  | [] => some []
  | r :: rs => match resV ti t r, resVs ti t rs with | some x, some xs => some (x :: xs) | _, _ => none
def packV : List V → V
  | [x] => x
  | xs => .tup xs

section
variable {P : Program} {ti : Tab} {base : Base} {σ : Sig} {w : World}
theorem resV_run (hti : TabOk P ti) {t : List V} {tmps : Array Value} (ht : Ms base σ w t tmps.toList) {r : ResultVar} {x : V} (hx : resV ti t r = some x) :
    ∃ v, (match r with | .tmp t => (pure (tmps.getD t undef) : Sem Value) | .cell a t => do loadVar t (← asAddr (tmps.getD a undef))).run P w = .ok v w ∧ M base σ w x v := by
  have hop : ∀ i, M base σ w (nth t i) (tmps.getD i undef) := fun i => opnd_M (a := ⟨tmps, []⟩) ht (.tmp i)
  cases r with
  | tmp i =>
    obtain rfl := Option.some.inj hx
    exact ⟨_, rfl, hop i⟩
  | cell p ty =>
    simp only [resV] at hx
    split at hx
    · rename_i i hi
      obtain ⟨ad, u, h1, h2, h3⟩ := load_M (hti _ _ hi) (hop p) hx
      refine ⟨u, ?_, h3⟩
      simp only [h1, asAddr, Sem.run_bind, Sem.run_pure, Result.andThen_ok, h2]
    · cases hx
theorem resVs_run (hti : TabOk P ti) {t : List V} {tmps : Array Value} (ht : Ms base σ w t tmps.toList) : ∀ {rs : List ResultVar} {xs : List V}, resVs ti t rs = some xs →
    ∃ vs : List Value, (rs.mapM (m := Sem) fun r => match r with | .tmp t => pure (tmps.getD t undef) | .cell a t => do loadVar t (← asAddr (tmps.getD a undef))).run P w = .ok vs w ∧ Ms base σ w xs vs
  | [], xs, h => by obtain rfl := Option.some.inj h; exact ⟨[], rfl, rfl, by simp⟩
  | r :: rs, xs, h => by
    simp only [resVs] at h
    split at h
    · rename_i x xs' h1 h2
      obtain rfl := Option.some.inj h
      obtain ⟨v, hv, hm⟩ := resV_run hti ht h1
      obtain ⟨vs, hvs, hms⟩ := resVs_run hti ht h2
      refine ⟨v :: vs, ?_, by simp [hms.1], fun i y u hy hu => ?_⟩
      · rw [List.mapM_cons]
        simp only [Sem.run_bind]
        rw [hv]
        simp only [Result.andThen_ok]
        rw [hvs]
        rfl
      · cases i with
        | zero => obtain rfl := Option.some.inj hy; obtain rfl := Option.some.inj hu; exact hm
        | succ i => exact hms.2 i y u hy hu
    · cases h
theorem results_run (hti : TabOk P ti) {t : List V} {tmps : Array Value} (ht : Ms base σ w t tmps.toList) {fn : Func} {xs : List V} (hx : resVs ti t fn.results.toList = some xs) :
    ∃ v, (results fn tmps).run P w = .ok v w ∧ M base σ w (packV xs) v := by
  obtain ⟨vs, h1, h2⟩ := resVs_run hti ht hx
  refine ⟨if h : vs.toArray.size = 1 then vs.toArray[0] else .tuple vs.toArray, ?_, ?_⟩
  · unfold results
    rw [Array.mapM_eq_mapM_toList]
    simp only [Sem.run_bind, Sem.run_map]
    exact congrArg (fun R : Result (List Value) => (R.andThen fun a w' => Result.ok a.toArray w').andThen fun a w' => Sem.run P (pure (if h : a.size = 1 then a[0] else Value.tuple a)) w') h1
  · cases xs with
    | nil =>
      have : vs = [] := List.eq_nil_of_length_eq_zero (by simpa using h2.1.symm)
      subst this
      exact .tup [] [] rfl (by simp)
    | cons x xs =>
      cases xs with
      | nil =>
        obtain ⟨v, rfl⟩ : ∃ v, vs = [v] := by
          have := h2.1
          match vs, this with
          | [v], _ => exact ⟨v, rfl⟩
        exact h2.2 0 x v rfl rfl
      | cons y xs =>
        have hl : ¬ vs.toArray.size = 1 := by have := h2.1; simp at this ⊢; omega
        rw [dif_neg hl]
        exact .tup _ _ h2.1 h2.2

/-- How a body ends. -/
def retQ (ti : Tab) (fn : Func) (Q : V → List V → Nat → Prop) : Exit → List V → List V → Nat → Prop :=
  fun e t h n => (e = .normal ∨ e = .ret) ∧ ∃ xs, resVs ti t fn.results.toList = some xs ∧ Q (packV xs) h n

theorem OkCall.enter (hti : TabOk P ti) {f : FuncId} {fn : Func} {c : Code} {args h : List V} {n : Nat} {Q : V → List V → Nat → Prop} (hf : P.funcs[f]? = some fn) (hb : fn.body = some c)
    (hk : Ok P c (args ++ List.replicate (fn.ntmps - args.length) .any) h n (retQ ti fn Q)) : OkCall P f args h n Q := by
  intro base w0 hv σ w vs inv hargs hh bel
  refine calls_of_wp hf hb ?_
  have hg : Good base w0 hv (args ++ List.replicate (fn.ntmps - args.length) .any) h n σ { tmps := vs.toArray ++ Array.replicate (fn.ntmps - vs.toArray.size) undef, defers := [] } w := by
    refine ⟨?_, hh, rfl, bel, inv⟩
    have hl := hargs.1
    refine ⟨by simp [hl], fun i x u hx hu => ?_⟩
    simp only [Array.toList_append, Array.toList_replicate] at hu
    rw [List.getElem?_append] at hx hu
    rw [← hl] at hu
    split at hx
    · rename_i hi
      rw [if_pos hi] at hu
      exact hargs.2 i x u hx hu
    · have := List.eq_of_mem_replicate (List.mem_of_getElem? hx)
      subst this
      exact .any _
  refine wp_mono (hk base w0 hv σ _ w hg) ?_
  rintro e a' w' ⟨t', h', n', σ', ⟨he, xs, hxs, hq⟩, g'⟩
  obtain ⟨v, hr, hm⟩ := results_run hti g'.ts hxs
  rcases he with rfl | rfl
  · exact ⟨g'.dfr, v, hr, packV xs, h', n', σ', v, rfl, hq, hm, g'.hs, g'.inv, g'.bel⟩
  · exact ⟨g'.dfr, v, hr, packV xs, h', n', σ', v, rfl, hq, hm, g'.hs, g'.inv, g'.bel⟩

/-- What hands back new memory alone, whatever its labels, is pure. -/
theorem Pure.of {f : FuncId} {args : List V} {r : V} (hd : V.dat r = true)
    (hc : OkCall P f args [] 1 fun x _ _ => V.erase x = V.erase r ∧ (∀ L ∈ V.labels x, L ≠ 0) ∧ (V.labels x).Nodup) : Pure P f args r := by
  intro w vs hargs
  have inv : Inv (bare w.heap.size) noSig w 1 := ⟨Nat.le_refl _, Nat.le_refl _, rfl, fun _ _ => rfl, fun _ _ _ _ h => by simp [noSig] at h, fun _ _ _ _ _ _ _ h => by simp [noSig] at h⟩
  refine (hc (bare w.heap.size) w [] noSig w vs inv hargs ⟨rfl, by simp⟩ (Below.refl _ _)).mono ?_
  rintro e w' ⟨x, h', n', σ', v, rfl, ⟨he, hz, hn⟩, hm, _, inv', bel⟩
  have hdt : V.dat (V.tag 1 r) = true := tag_dat r 1 hd
  obtain ⟨σ2, hsub, hm2⟩ := relabel inv'.inj (V.tag 1 r) x v hm (by rw [he, tag_erase r 1 hd]) hdt (fun h => hz 0 h rfl) (by rw [tag_labels, List.mem_range'_1]; omega) hn (by rw [tag_labels]; exact List.nodup_range')
  refine ⟨σ2, v, 1 + V.cnt r, rfl, hm2, ⟨inv'.bs, by omega, ?_, ?_, ?_, hsub.inj⟩, bel⟩
  · cases h0 : σ2 0 with
    | none => rfl
    | some p =>
      obtain ⟨b, o, s⟩ := p
      have := (hsub.dom 0 b o s h0).1
      rw [tag_labels, List.mem_range'_1] at this
      omega
  · intro L hL
    cases h0 : σ2 L with
    | none => rfl
    | some p =>
      obtain ⟨b, o, s⟩ := p
      have := (hsub.dom L b o s h0).1
      rw [tag_labels, List.mem_range'_1] at this
      omega
  · intro L b o s h
    obtain ⟨_, L1, _, o1, s1, h1⟩ := hsub.dom L b o s h
    exact inv'.own L1 b o1 s1 h1
end
end Go.Proofs.Ytjhfabimacljhaa.K
