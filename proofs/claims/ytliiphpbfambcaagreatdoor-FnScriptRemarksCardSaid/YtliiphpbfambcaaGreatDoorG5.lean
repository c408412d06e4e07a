/- Regions that draw their order: operations that turn memory come in a chain, all others in stages between them. -/
import Derived.Test.YtliiphpbfambcaaGreatDoorG3
namespace Go.Proofs.YtliiphpbfambcaaGreatDoor.K
open Go Go.RowKit
set_option linter.unusedVariables false
set_option linter.unusedSimpArgs false
abbrev Stg := Nat × List Nat × List Nat
def ixs (ops : Array Oper) : List Nat → List Oper
  | [] => []
  | i :: is => match ops[i]? with | some o => o :: ixs ops is | none => ixs ops is
def heads (pl : List Stg) : List Nat := pl.flatMap fun e => e.2.2
def dstOf (ops : Array Oper) (j : Nat) : Option Tmp := (ops[j]?).bind (·.dst)
def comes (ops : Array Oper) (o : Oper) (j : Nat) : Bool := direct o j || reachB ops 12 o j
def hdB (ops : Array Oper) (AH : List Nat) (i : Nat) : Bool :=
  match ops[i]? with
  | none => false
  | some o => AH.all fun j => match dstOf ops j with | none => true | some d => (j == i || o.dst != some d) && (!(o.looksAt ops).contains d || (direct o j && j != i))
def memB (ops : Array Oper) (AH av dm : List Nat) (i : Nat) (la : List Nat) : Bool :=
  match ops[i]? with
  | none => false
  | some o => (dm.all fun j => comes ops o j) && (av.all fun j => la.contains j || comes ops o j) &&
      AH.all fun j => match dstOf ops j with | none => true | some d => o.dst != some d && (!(o.looksAt ops).contains d || direct o j)
def planB (ops : Array Oper) (m : Nat) (AH : List Nat) : List Nat → List Nat → List Stg → Bool
  | _, _, [] => true
  | av, dm, (i, la, hs) :: rest => memB ops AH av dm i la && (hs.all fun j => match ops[j]? with | none => false | some o => comes ops o i) && sepB ops m (ixs ops hs) && planB ops m AH (av ++ hs) (dm ++ [i]) rest
def stagesB (l : List Oper) (m : Nat) (h0 : List Nat) (pl : List Stg) : Bool :=
  sepB l.toArray m (ixs l.toArray h0) && ((h0 ++ heads pl).all fun i => hdB l.toArray (h0 ++ heads pl) i) && planB l.toArray m (h0 ++ heads pl) h0 [] pl &&
    decide ((h0 ++ heads pl ++ pl.map (·.1)).Nodup) && ((List.range l.length).all fun i => (h0 ++ heads pl ++ pl.map (·.1)).contains i && (match l.toArray[i]? with | none => false | some o => back o i)) && (h0 ++ heads pl ++ pl.map (·.1)).all fun i => decide (i < l.length)
def LateA (P : Program) (ops : Array Oper) (t1 h' : List V) (n1 : Nat) (t' : List V) (late : List Nat) : Prop :=
  ∃ ia ra ca : Nat, (∀ i ∈ late, i ≠ ia → ∀ o, ops[i]? = some o → ∃ X, (o.dst = none ∨ slot t' o = X) ∧ StepS P ops o t' 1 X 0) ∧ 1 ≤ ra ∧ ra + ca ≤ n1 ∧
    (ia ∈ late → ∀ o, ops[ia]? = some o → (∃ X, (o.dst = none ∨ slot t' o = X) ∧ StepS P ops o t' ra X ca) ∧ ∀ L, ra ≤ L → L < ra + ca → L ∉ V.labelsL h' ∧ ∀ d x, t1[d]? = some x → L ∈ V.labels x → o.dst = some d)
def Pend (P : Program) (ops : Array Oper) (Q : Exit → List V → List V → Nat → Prop) : List Stg → List V → List V → Nat → Prop
  | [], t, h, n => Q .normal t h n
  | (i, la, hs) :: rest, t, h, n => ∃ b t1 h' n1, ops[i]? = some b ∧ b.guard = none ∧ t1.length = t.length ∧ OpT P ops b t h n t1 h' n1 ∧ SOps P ops (ixs ops hs) t1 n1 fun t' n' => LateA P ops t1 h' n1 t' la ∧ Pend P ops Q rest t' h' n'
theorem ixs_get {ops : Array Oper} : ∀ {is : List Nat}, (∀ i ∈ is, i < ops.size) → (ixs ops is).length = is.length ∧ ∀ q : Nat, (ixs ops is)[q]? = (is[q]?).bind fun i => ops[i]?
  | [], _ => ⟨rfl, fun q => by simp [ixs]⟩
  | i :: is, h => by
    have hi := h i (List.mem_cons_self ..)
    have ih := ixs_get (is := is) fun j hj => h j (List.mem_cons_of_mem _ hj)
    have e : ixs ops (i :: is) = ops[i] :: ixs ops is := by
      unfold ixs; rw [Array.getElem?_eq_getElem hi]
      simp only []
      cases is <;> rfl
    rw [e]
    refine ⟨by simp [ih.1], fun q => ?_⟩
    cases q with
    | zero => simp [hi]
    | succ q => simp [ih.2 q]
section
variable {P : Program} {ops : Array Oper} {m : Nat} {Q : Exit → List V → List V → Nat → Prop}
def hidA (ops : Array Oper) (A : List Nat) (lis : Array Bool) (d : Nat) : Bool := A.any fun j => !lis.getD j false && dstOf ops j == some d
def hideA (ops : Array Oper) (A : List Nat) (lis : Array Bool) (t : List V) : List V := maskP (fun d => !hidA ops A lis d) 0 t
theorem hidA_spec {A : List Nat} {lis : Array Bool} {d : Nat} : hidA ops A lis d = true ↔ ∃ j, j ∈ A ∧ lis.getD j false = false ∧ dstOf ops j = some d := by
  unfold hidA
  rw [List.any_eq_true]
  constructor
  · rintro ⟨j, hj, h⟩
    simp only [Bool.and_eq_true, Bool.not_eq_true', beq_iff_eq] at h
    exact ⟨j, hj, h.1, h.2⟩
  · rintro ⟨j, hj, h1, h2⟩
    exact ⟨j, hj, by simp only [Bool.and_eq_true, Bool.not_eq_true', beq_iff_eq]; exact ⟨h1, h2⟩⟩
theorem hidA_false {A : List Nat} {lis : Array Bool} {d : Nat} (h : ∀ j, j ∈ A → dstOf ops j = some d → lis.getD j false = true) : hidA ops A lis d = false := by
  cases hh : hidA ops A lis d with
  | false => rfl
  | true =>
    obtain ⟨j, h1, h2, h3⟩ := hidA_spec.1 hh
    rw [h j h1 h3] at h2
    cases h2
theorem planB_at {AH : List Nat} : ∀ {pre : List Stg} {av dm : List Nat} {i : Nat} {la hs : List Nat} {post : List Stg}, planB ops m AH av dm (pre ++ (i, la, hs) :: post) = true →
    memB ops AH (av ++ heads pre) (dm ++ pre.map (·.1)) i la = true ∧ (∀ j ∈ hs, ∃ o, ops[j]? = some o ∧ comes ops o i = true) ∧ sepB ops m (ixs ops hs) = true
  | [], av, dm, i, la, hs, post, h => by
    simp only [List.nil_append, planB, Bool.and_eq_true] at h
    obtain ⟨⟨⟨h1, h2⟩, h3⟩, _⟩ := h
    refine ⟨by simpa [heads] using h1, fun j hj => ?_, h3⟩
    have := List.all_eq_true.1 h2 j hj
    split at this
    · cases this
    · rename_i o ho; exact ⟨o, ho, this⟩
  | (i0, la0, hs0) :: pre, av, dm, i, la, hs, post, h => by
    simp only [List.cons_append, planB, Bool.and_eq_true] at h
    have := planB_at (pre := pre) h.2
    simpa [heads, List.append_assoc] using this
theorem comes_listed {lis : Array Bool} (hcl : Closed ops lis) {o : Oper} {j : Nat} (h : ∀ e ∈ o.after, Region.binds .any e = true → lis.getD e.on false = true) (hc : comes ops o j = true) : lis.getD j false = true := by
  unfold comes at hc
  rw [Bool.or_eq_true] at hc
  rcases hc with hc | hc
  · exact direct_listed h hc
  · exact reach_listed hcl 12 o h hc
theorem Good.lose {base : Base} {w0 : World} {hv : List Value} {t h : List V} {n : Nat} {σ : Sig} {a : Act} {w : World} (f : Nat → Bool) (g : Good base w0 hv t h n σ a w) (ht : ∀ L, f L = true → L ∉ V.labelsL t) (hh : ∀ L, f L = true → L ∉ V.labelsL h) : Good base w0 hv t h n (fun L => if f L = true then none else σ L) a w := by
  have sub : ∀ L x, (if f L = true then none else σ L) = some x → σ L = some x := by
    intro L x hx
    split at hx
    · cases hx
    · exact hx
  have key : ∀ (q : List V) (l : List Value), (∀ L, f L = true → L ∉ V.labelsL q) → Ms base σ w q l → Ms base (fun L => if f L = true then none else σ L) w q l := by
    intro q l hq hm
    refine ⟨hm.1, fun i x u hx hu => (hm.2 i x u hx hu).as fun L hL sz pos room ad hat => ?_⟩
    have hfL : ¬ f L = true := fun hf => hq L hf (mem_labelsL.2 ⟨x, List.mem_of_getElem? hx, hL⟩)
    rcases hat with ⟨h0, hold⟩ | ⟨b, o, cur, e, fr, hs, rest⟩
    · exact .inl ⟨h0, hold.1, fun L b o s hs => hold.2.1 L b o s (sub _ _ hs), hold.2.2⟩
    · exact .inr ⟨b, o, cur, e, fr, (if_neg hfL).trans hs, rest⟩
  refine ⟨key _ _ ht g.ts, key _ _ hh g.hs, g.dfr, g.bel, ⟨g.inv.bs, g.inv.pos, ?_, ?_, ?_, ?_⟩, g.gk⟩
  · show (if f 0 = true then none else σ 0) = none
    split
    · rfl
    · exact g.inv.zero
  · intro L hL
    show (if f L = true then none else σ L) = none
    split
    · rfl
    · exact g.inv.fresh L hL
  · intro L b o s hs; exact g.inv.own L b o s (sub _ _ hs)
  · intro L L' b o s o' s' h1 h2; exact g.inv.inj L L' b o s o' s' (sub _ _ h1) (sub _ _ h2)
def JS (P : Program) (ops : Array Oper) (m : Nat) (h0 : List Nat) (plan : List Stg) (Q : Exit → List V → List V → Nat → Prop) (base : Base) (w0 : World) (hv : List Value) (lis : Array Bool) (a : Act) (w : World) : Prop :=
  ∃ pre pl t h n σ, ∃ r c : Nat → Nat, t.length = m ∧ plan = pre ++ pl ∧ (∀ e ∈ pre, lis.getD e.1 false = true) ∧ (∀ e ∈ pl, lis.getD e.1 false = false) ∧
    (∀ i ∈ h0 ++ heads pre, ∀ o, ops[i]? = some o → lis.getD i false = false → (∃ X, (o.dst = none ∨ slot t o = X) ∧ StepS P ops o t (r i) X (c i)) ∧ 1 ≤ r i ∧ r i + c i ≤ n ∧ (∀ L, r i ≤ L → L < r i + c i → σ L = none)) ∧
    (∀ i j, i ∈ h0 ++ heads pre → j ∈ h0 ++ heads pre → i ≠ j → lis.getD i false = false → lis.getD j false = false → r i + c i ≤ r j ∨ r j + c j ≤ r i) ∧
    Pend P ops Q pl t h n ∧ Good base w0 hv (hideA ops (h0 ++ heads pre) lis t) h n σ a w
theorem setD (lis : Array Bool) (i j : Nat) (hi : i < lis.size) : (lis.setIfInBounds i true).getD j false = if i = j then true else lis.getD j false := by
  rw [getD_set]
  by_cases h : i = j
  · rw [if_pos ⟨h, hi⟩, if_pos h]
  · rw [if_neg (fun q => h q.1), if_neg h]
theorem heads_app (a b : List Stg) : heads (a ++ b) = heads a ++ heads b := by simp [heads]
theorem stages_run {h0 : List Nat} {plan : List Stg} {base : Base} {w0 : World} {hv : List Value} (hhd : ∀ i ∈ h0 ++ heads plan, hdB ops (h0 ++ heads plan) i = true) (hpl : planB ops m (h0 ++ heads plan) h0 [] plan = true)
    (hall : ∀ i, i < ops.size → i ∈ h0 ++ heads plan ∨ ∃ e ∈ plan, e.1 = i) (hnd0 : (h0 ++ heads plan ++ plan.map (·.1)).Nodup) (hbk : ∀ i o, ops[i]? = some o → back o i = true) (hbd : ∀ i ∈ h0 ++ heads plan, i < ops.size) :
    ∀ (fuel : Nat) (ul : List Nat) (lis : Array Bool) (a : Act) (w : World), ul.length = fuel → ul.Nodup → lis.size = ops.size → (∀ i, i < ops.size → (lis.getD i false = false ↔ i ∈ ul)) → (∀ i ∈ ul, i < ops.size) → Closed ops lis →
      JS P ops m h0 plan Q base w0 hv lis a w → wpAny P .any ops (Post base w0 hv Q) fuel lis a w := by
  have hready : ∀ (lis : Array Bool), lis.size = ops.size → Region.ready .any ops lis = [] → ∀ i, i < ops.size → lis.getD i false = true := by
    intro lis hsz hr i
    induction i using Nat.strongRecOn with
    | ind i ih =>
      intro hi
      cases hli : lis.getD i false with
      | true => rfl
      | false =>
        exfalso
        have hmem : i ∈ Region.ready .any ops lis := by
          rw [mem_ready]
          refine ⟨?_, ops[i], by simp [hi], fun e he hb => ?_⟩
          · rw [Array.getD_eq_getD_getElem?, Array.getElem?_eq_getElem (by omega)] at hli ⊢
            exact hli
          · have := hbk i ops[i] (by simp [hi])
            unfold back at this
            have := Array.all_eq_true_iff_forall_mem.1 this e he
            simp only [Bool.or_eq_true, Bool.not_eq_true', hb, Bool.true_eq_false, false_or, decide_eq_true_eq] at this
            exact ih e.on this (by omega)
        rw [hr] at hmem
        cases hmem
  intro fuel
  induction fuel with
  | zero =>
    intro ul lis a w hul hnd hsz hun hin hcl hJ
    obtain rfl : ul = [] := List.eq_nil_of_length_eq_zero hul
    have hal : ∀ i, i < ops.size → lis.getD i false = true := by
      intro i hi
      cases hli : lis.getD i false with
      | true => rfl
      | false => exact absurd ((hun i hi).1 hli) (by simp)
    refine ⟨?_, ?_⟩
    · cases hr : Region.ready .any ops lis with
      | nil => rfl
      | cons x xs =>
        have hx : x ∈ Region.ready .any ops lis := by rw [hr]; exact List.mem_cons_self ..
        rw [mem_ready] at hx
        obtain ⟨h1, o, ho, _⟩ := hx
        have hi : x < ops.size := (Array.getElem?_eq_some_iff.1 ho).1
        have := hal x hi
        rw [Array.getD_eq_getD_getElem?, Array.getElem?_eq_getElem (by omega)] at h1 this
        simp at h1 this
        rw [h1] at this
        cases this
    · obtain ⟨pre, pl, t, h, n, σ, r, c, htm, hpp, hpre, hun', hst, hdis, htl, g⟩ := hJ
      cases pl with
      | cons e pl =>
        obtain ⟨i, la, hs⟩ := e
        obtain ⟨b, t1, h', n1, hb, _⟩ := htl
        have := hal i (Array.getElem?_eq_some_iff.1 hb).1
        rw [hun' (i, la, hs) (List.mem_cons_self ..)] at this
        cases this
      | nil =>
        have hhide : hideA ops (h0 ++ heads pre) lis t = t := maskP_true fun d => by
          rw [hidA_false fun j hj _ => hal j (hbd j (by rw [hpp]; simpa [heads_app] using hj))]; rfl
        rw [hhide] at g
        exact ⟨t, h, n, σ, htl, g⟩
  | succ fuel ih =>
    intro ul lis a w hul hnd hsz hun hin hcl hJ
    refine ⟨fun hr => ?_, fun i hi => ?_⟩
    · exfalso
      cases ul with
      | nil => simp at hul
      | cons x xs =>
        have h1 := hin x (List.mem_cons_self ..)
        have h2 := hready lis hsz hr x h1
        have h3 := (hun x h1).2 (List.mem_cons_self ..)
        rw [h2] at h3
        cases h3
    · rw [mem_ready] at hi
      obtain ⟨hi0, o, ho, hedge⟩ := hi
      have hisz : i < ops.size := (Array.getElem?_eq_some_iff.1 ho).1
      have hils : i < lis.size := by omega
      have hif : lis.getD i false = false := by
        rw [Array.getD_eq_getD_getElem?, Array.getElem?_eq_getElem (by omega)] at hi0 ⊢
        exact hi0
      have hiu := (hun i hisz).1 hif
      have next : ∀ a' w', JS P ops m h0 plan Q base w0 hv (lis.setIfInBounds i true) a' w' → wpAny P .any ops (Post base w0 hv Q) fuel (lis.setIfInBounds i true) a' w' := by
        intro a' w' hJ'
        refine ih (ul.erase i) _ a' w' (by rw [List.length_erase_of_mem hiu]; omega) (hnd.erase i) (by simp [hsz]) ?_ (fun j hj => hin j (List.mem_of_mem_erase hj)) ?_ hJ'
        · intro j hj
          rw [setD _ _ _ hils, hnd.mem_erase_iff, ← hun j hj]
          by_cases hij : i = j
          · subst hij
            simp
          · rw [if_neg hij]
            exact ⟨fun h => ⟨Ne.symm hij, h⟩, fun h => h.2⟩
        · intro j oj hoj hlj e he hb
          have up : ∀ m, lis.getD m false = true → (lis.setIfInBounds i true).getD m false = true := by
            intro m hm
            rw [setD _ _ _ hils]
            split
            · rfl
            · exact hm
          by_cases hij : i = j
          · subst hij
            rw [ho] at hoj
            obtain rfl := Option.some.inj hoj
            exact up _ (hedge e he hb)
          · rw [setD _ _ _ hils, if_neg hij] at hlj
            exact up _ (hcl j oj hoj hlj e he hb)
      have up : ∀ m, lis.getD m false = true → (lis.setIfInBounds i true).getD m false = true := by
        intro m hm
        rw [setD _ _ _ hils]
        split
        · rfl
        · exact hm
      have dn : ∀ m, (lis.setIfInBounds i true).getD m false = false → i ≠ m ∧ lis.getD m false = false := by
        intro m hm
        rw [setD _ _ _ hils] at hm
        split at hm
        · cases hm
        · rename_i hne; exact ⟨hne, hm⟩
      obtain ⟨pre, pl, t, h, n, σ, r, c, htm, hpp, hpre, hun', hst, hdis, htl, g⟩ := hJ
      have hsub : ∀ j ∈ h0 ++ heads pre, j ∈ h0 ++ heads plan := fun j hj => by
        rw [hpp, heads_app, ← List.append_assoc]; exact List.mem_append_left _ hj
      rcases hall i hisz with hiH | ⟨e, heP, hei⟩
      · -- a head
        have hiA : i ∈ h0 ++ heads pre := by
          rw [hpp, heads_app, ← List.append_assoc] at hiH
          rcases List.mem_append.1 hiH with hh | hh
          · exact hh
          · exfalso
            obtain ⟨e, he, hie⟩ := List.mem_flatMap.1 hh
            obtain ⟨p1, p2, rfl⟩ := List.append_of_mem he
            obtain ⟨i1, la, hs⟩ := e
            have := planB_at (pre := pre ++ p1) (i := i1) (la := la) (hs := hs) (post := p2) (by rw [List.append_assoc, ← hpp]; exact hpl)
            obtain ⟨o', ho', hc⟩ := this.2.1 i hie
            rw [ho] at ho'
            obtain rfl := Option.some.inj ho'
            have h1 := comes_listed hcl hedge hc
            rw [hun' (i1, la, hs) he] at h1
            cases h1
        have hH := hhd i hiH
        unfold hdB at hH
        rw [ho] at hH
        have hsep : ∀ j, j ∈ h0 ++ heads pre → ∀ d, dstOf ops j = some d → (j = i ∨ o.dst ≠ some d) ∧ (d ∈ o.looksAt ops → direct o j = true ∧ j ≠ i) := by
          intro j hj d hd
          have := List.all_eq_true.1 hH j (hsub j hj)
          rw [hd] at this
          simp only [Bool.and_eq_true, Bool.or_eq_true, beq_iff_eq, bne_iff_ne, ne_eq, Bool.not_eq_true'] at this
          refine ⟨this.1, fun hm => ?_⟩
          rcases this.2 with h | h
          · simp [hm] at h
          · exact h
        obtain ⟨⟨X, hX, hS⟩, hr1, hrn, hfree⟩ := hst i hiA o ho hif
        refine hS.run ho g ?_ hr1 hrn hfree fun σ' a' w' g' hσ => next a' w' ?_
        · intro d hd
          unfold hideA
          rw [maskP_nth, hidA_false]
          · rfl
          · intro j hj hdj
            exact direct_listed hedge ((hsep j hj d hdj).2 hd).1
        · refine ⟨pre, pl, t, h, n, σ', r, c, htm, hpp, fun e he => up _ (hpre e he), ?_, ?_, ?_, htl, ?_⟩
          · intro e he
            rw [setD _ _ _ hils, if_neg]
            · exact hun' e he
            · intro hie
              rw [List.nodup_append] at hnd0
              exact hnd0.2.2 i hiH i (List.mem_map.2 ⟨e, by rw [hpp]; exact List.mem_append_right _ he, hie.symm⟩) rfl
          · intro j hj o' ho' hlj
            obtain ⟨hne, hlj⟩ := dn j hlj
            obtain ⟨h1, h2, h3, h4⟩ := hst j hj o' ho' hlj
            refine ⟨h1, h2, h3, fun L hL1 hL2 => ?_⟩
            rw [hσ L]
            · exact h4 L hL1 hL2
            · have := hdis i j hiA hj hne hif hlj
              omega
          · intro j1 j2 hj1 hj2 hne hl1 hl2
            exact hdis j1 j2 hj1 hj2 hne (dn _ hl1).2 (dn _ hl2).2
          · have heq : putV (hideA ops (h0 ++ heads pre) lis t) o.dst X = hideA ops (h0 ++ heads pre) (lis.setIfInBounds i true) t := by
              have hoff : ∀ d, o.dst ≠ some d → hidA ops (h0 ++ heads pre) (lis.setIfInBounds i true) d = hidA ops (h0 ++ heads pre) lis d := by
                intro d hd
                rw [Bool.eq_iff_iff, hidA_spec, hidA_spec]
                constructor
                · rintro ⟨j, h1, h2, h3⟩
                  exact ⟨j, h1, (dn _ h2).2, h3⟩
                · rintro ⟨j, h1, h2, h3⟩
                  refine ⟨j, h1, ?_, h3⟩
                  rw [setD _ _ _ hils, if_neg]
                  · exact h2
                  · rintro rfl
                    unfold dstOf at h3
                    rw [ho] at h3
                    exact hd h3
              cases hdst : o.dst with
              | none =>
                refine maskP_congr rfl fun d => ⟨?_, fun _ => rfl⟩
                rw [hoff d (by rw [hdst]; simp)]
              | some d0 =>
                have hX' : nth t d0 = X := by
                  rcases hX with hX | hX
                  · rw [hdst] at hX; cases hX
                  · unfold slot at hX; rw [hdst] at hX; exact hX
                apply List.ext_getElem?
                intro d
                simp only [putV]
                unfold hideA
                rw [List.getElem?_set, maskP_get, maskP_get, maskP_len, Nat.zero_add]
                by_cases hd : d0 = d
                · subst hd
                  rw [if_pos rfl, hidA_false]
                  · by_cases hdl : d0 < t.length
                    · rw [if_pos hdl, List.getElem?_eq_getElem hdl]
                      rw [nth_some (List.getElem?_eq_getElem hdl)] at hX'
                      simp [hX']
                    · rw [if_neg hdl, List.getElem?_eq_none (Nat.le_of_not_lt hdl)]; rfl
                  · intro j hj hdj
                    have := (hsep j hj d0 hdj).1
                    rcases this with h | h
                    · rw [setD _ _ _ hils, if_pos h.symm]
                    · exact absurd hdst h
                · rw [if_neg hd, hoff d (by rw [hdst]; intro h; exact hd (Option.some.inj h))]
            rw [← heq]
            exact g'
      · -- one of the chain
        have hepl : e ∈ pl := by
          rw [hpp] at heP
          rcases List.mem_append.1 heP with h | h
          · have := hpre e h
            rw [hei, hif] at this; cases this
          · exact h
        obtain ⟨i0, la, hs, rest, rfl, rfl⟩ : ∃ i0 la hs rest, pl = (i0, la, hs) :: rest ∧ i0 = i := by
          cases pl with
          | nil => cases hepl
          | cons e0 rest =>
            obtain ⟨i0, la, hs⟩ := e0
            refine ⟨i0, la, hs, rest, rfl, ?_⟩
            rcases List.mem_cons.1 hepl with rfl | her
            · exact hei
            · exfalso
              obtain ⟨p1, p2, rfl⟩ := List.append_of_mem her
              obtain ⟨i1, la1, hs1⟩ := e
              have hei : i1 = i := hei
              subst hei
              have := (planB_at (pre := pre ++ (i0, la, hs) :: p1) (i := i1) (la := la1) (hs := hs1) (post := p2) (by rw [List.append_assoc, List.cons_append, ← hpp]; exact hpl)).1
              unfold memB at this
              rw [ho] at this
              simp only [Bool.and_eq_true] at this
              have hc := List.all_eq_true.1 this.1.1 i0 (by simp)
              have h1 := comes_listed hcl hedge hc
              rw [hun' (i0, la, hs) (List.mem_cons_self ..)] at h1
              cases h1
        have hB := planB_at (pre := pre) (i := i0) (la := la) (hs := hs) (post := rest) (by rw [← hpp]; exact hpl)
        obtain ⟨hM, hcs, hsepS⟩ := hB
        unfold memB at hM
        rw [ho] at hM
        simp only [Bool.and_eq_true] at hM
        obtain ⟨⟨_, hMb⟩, hMc⟩ := hM
        have hMs : ∀ j ∈ h0 ++ heads plan, ∀ d, dstOf ops j = some d → o.dst ≠ some d ∧ (d ∈ o.looksAt ops → direct o j = true) := by
          intro j hj d hd
          have := List.all_eq_true.1 hMc j hj
          rw [hd] at this
          simp only [Bool.and_eq_true, Bool.or_eq_true, bne_iff_ne, ne_eq, Bool.not_eq_true'] at this
          refine ⟨this.1, fun hm => ?_⟩
          rcases this.2 with h | h
          · simp [hm] at h
          · exact h
        have hlateA : ∀ j ∈ h0 ++ heads pre, lis.getD j false = false → j ∈ la := by
          intro j hj hlj
          have := List.all_eq_true.1 hMb j hj
          rw [Bool.or_eq_true] at this
          rcases this with h | h
          · simpa using h
          · rw [comes_listed hcl hedge h] at hlj; cases hlj
        obtain ⟨b, t1, h', n1, hb, hg, hlen, hop, hrest⟩ := htl
        rw [ho] at hb
        obtain rfl := Option.some.inj hb
        have hok := hop (fun d => !hidA ops (h0 ++ heads pre) lis d) (fun d hd => by
            rw [hidA_false]
            · rfl
            · intro j hj hdj
              exact direct_listed hedge ((hMs j (hsub j hj) d hdj).2 hd)) (fun d hd => by
            rw [hidA_false]
            · rfl
            · intro j hj hdj
              exact absurd hd (hMs j (hsub j hj) d hdj).1)
        unfold wpOp
        simp only [ho]
        rw [if_pos (wanted_none hg _)]
        refine .inl (hok base w0 hv σ a w g _ _ fun σ0 a' w' g0 => next a' w' ?_)
        have hsH : ∀ j ∈ hs, j ∈ h0 ++ heads plan := fun j hj => by
          rw [hpp, heads_app]
          exact List.mem_append_right _ (List.mem_append_right _ (List.mem_flatMap.2 ⟨(i0, la, hs), List.mem_cons_self .., hj⟩))
        have hix := ixs_get (ops := ops) (is := hs) fun j hj => hbd j (hsH j hj)
        obtain ⟨tF, nF, ⟨hlF0, hpend⟩, hn, hlF, hframe, r2, c2, hal2, hdis2⟩ := SOps.all _ _ _ _ hrest (hlen.trans htm) hsepS
        obtain ⟨ia, ra, ca, hlate, hra1, hran, hlia⟩ := hlF0
        have hf0 : ∀ L, (decide (ia ∈ h0 ++ heads pre ∧ lis.getD ia false = false ∧ ra ≤ L ∧ L < ra + ca)) = true → L ∉ V.labelsL (maskP (fun d => !hidA ops (h0 ++ heads pre) lis d) 0 t1) ∧ L ∉ V.labelsL h' := by
          intro L hL
          obtain ⟨q1, q2, q3, q4⟩ := of_decide_eq_true hL
          obtain ⟨oa, hoa⟩ : ∃ o, ops[ia]? = some o := ⟨ops[ia]'(hbd ia (hsub ia q1)), by simp [hbd ia (hsub ia q1)]⟩
          obtain ⟨_, hfree⟩ := hlia (hlateA ia q1 q2) oa hoa
          obtain ⟨f1, f2⟩ := hfree L q3 q4
          refine ⟨fun hm => ?_, f1⟩
          obtain ⟨x, hx, hLx⟩ := mem_labelsL.1 hm
          obtain ⟨d, hd⟩ := List.mem_iff_getElem?.1 hx
          rw [maskP_get, Nat.zero_add] at hd
          obtain ⟨y, hy, rfl⟩ := Option.map_eq_some_iff.1 hd
          cases hhd : hidA ops (h0 ++ heads pre) lis d with
          | true => rw [hhd] at hLx; simp [V.labels] at hLx
          | false =>
            rw [hhd] at hLx
            have hdst := f2 d y hy (by simpa using hLx)
            have : hidA ops (h0 ++ heads pre) lis d = true := hidA_spec.2 ⟨ia, q1, q2, by unfold dstOf; rw [hoa]; exact hdst⟩
            rw [hhd] at this; cases this
        have g' := g0.lose _ (fun L hL => (hf0 L hL).1) (fun L hL => (hf0 L hL).2)
        have hfree' : ∀ L, ia ∈ h0 ++ heads pre → lis.getD ia false = false → ra ≤ L → L < ra + ca → (fun L => if (decide (ia ∈ h0 ++ heads pre ∧ lis.getD ia false = false ∧ ra ≤ L ∧ L < ra + ca)) = true then none else σ0 L) L = none := fun L q1 q2 q3 q4 => if_pos (decide_eq_true ⟨q1, q2, q3, q4⟩)
        generalize (fun L => if (decide (ia ∈ h0 ++ heads pre ∧ lis.getD ia false = false ∧ ra ≤ L ∧ L < ra + ca)) = true then none else σ0 L) = σ' at g' hfree'
        have hq : ∀ j ∈ hs, ∃ o', ops[j]? = some o' ∧ (ixs ops hs)[hs.idxOf j]? = some o' := fun j hj => by
          obtain ⟨o', ho', _⟩ := hcs j hj
          refine ⟨o', ho', ?_⟩
          rw [hix.2, List.getElem?_eq_getElem (List.idxOf_lt_length_of_mem hj), List.getElem_idxOf]
          exact ho'
        have hheads : h0 ++ heads (pre ++ [(i0, la, hs)]) = (h0 ++ heads pre) ++ hs := by simp [heads_app, heads]
        refine ⟨pre ++ [(i0, la, hs)], rest, tF, h', nF, σ', fun j => if j ∈ hs then r2 (hs.idxOf j) else if j = ia then ra else 1, fun j => if j ∈ hs then c2 (hs.idxOf j) else if j = ia then ca else 0, hlF, by simp [hpp], ?_, ?_, ?_, ?_, hpend, ?_⟩
        · intro e he
          rcases List.mem_append.1 he with h | h
          · exact up _ (hpre e h)
          · obtain rfl := List.mem_singleton.1 h
            rw [setD _ _ _ hils, if_pos rfl]
        · intro e he
          rw [setD _ _ _ hils, if_neg]
          · exact hun' e (List.mem_cons_of_mem _ he)
          · intro hie
            rw [List.nodup_append] at hnd0
            have h2 := hnd0.2.1
            rw [hpp, List.map_append, List.nodup_append] at h2
            have h3 := h2.2.1
            rw [List.map_cons, List.nodup_cons] at h3
            exact h3.1 (List.mem_map.2 ⟨e, he, hie.symm⟩)
        · rw [hheads]
          intro j hj o' ho' hlj
          obtain ⟨hne, hlj⟩ := dn j hlj
          have hpos := g'.inv.pos
          by_cases hjs : j ∈ hs
          · simp only [if_pos hjs]
            obtain ⟨o2, ho2, hq2⟩ := hq j hjs
            rw [ho'] at ho2
            obtain rfl := Option.some.inj ho2
            obtain ⟨h1, h2, h3⟩ := hal2 _ _ hq2
            exact ⟨h1, by omega, h3, fun L hL _ => g'.inv.fresh L (by omega)⟩
          · simp only [if_neg hjs]
            have hjA : j ∈ h0 ++ heads pre := (List.mem_append.1 hj).elim id fun h => absurd h hjs
            by_cases hja : j = ia
            · subst hja
              simp only [↓reduceIte]
              exact ⟨(hlia (hlateA j hjA hlj) o' ho').1, hra1, by omega, fun L h1 h2 => hfree' L hjA hlj h1 h2⟩
            · simp only [if_neg hja]
              exact ⟨hlate j (hlateA j hjA hlj) hja o' ho', Nat.le_refl _, by omega, fun L h1 h2 => by omega⟩
        · rw [hheads]
          intro j1 j2 hj1 hj2 hne hl1 hl2
          have hpos := g'.inv.pos
          by_cases h1 : j1 ∈ hs
          · by_cases h2 : j2 ∈ hs
            · simp only [if_pos h1, if_pos h2]
              have l1 := List.idxOf_lt_length_of_mem h1
              have l2 := List.idxOf_lt_length_of_mem h2
              have hd : hs.idxOf j1 ≠ hs.idxOf j2 := fun h => hne (by
                have e1 := List.getElem_idxOf l1
                have e2 := List.getElem_idxOf l2
                rw [← e1, ← e2]; simp only [h])
              rcases Nat.lt_or_gt_of_ne hd with h | h
              · exact .inl (hdis2 _ _ h (by rw [hix.1]; exact l2))
              · exact .inr (hdis2 _ _ h (by rw [hix.1]; exact l1))
            · simp only [if_pos h1, if_neg h2]
              obtain ⟨o2, _, hq2⟩ := hq j1 h1
              have := (hal2 _ _ hq2).2.1
              have hb1 : (if j2 = ia then ra else 1) + (if j2 = ia then ca else 0) ≤ n1 := by split <;> omega
              right; omega
          · by_cases h2 : j2 ∈ hs
            · simp only [if_neg h1, if_pos h2]
              obtain ⟨o2, _, hq2⟩ := hq j2 h2
              have := (hal2 _ _ hq2).2.1
              have hb1 : (if j1 = ia then ra else 1) + (if j1 = ia then ca else 0) ≤ n1 := by split <;> omega
              left; omega
            · simp only [if_neg h1, if_neg h2]
              by_cases e1 : j1 = ia
              · have e2 : ¬ j2 = ia := fun e2 => hne (e1.trans e2.symm)
                simp only [if_pos e1, if_neg e2]; right; omega
              · simp only [if_neg e1]
                have hb1 : 1 ≤ (if j2 = ia then ra else 1) := by split <;> omega
                left; omega
        · rw [hheads]
          refine ⟨?_, g'.hs, g'.dfr, g'.bel, ⟨g'.inv.bs, by have := g'.inv.pos; omega, g'.inv.zero, fun L hL => g'.inv.fresh L (by omega), g'.inv.own, g'.inv.inj⟩, g'.gk⟩
          have h1 := g'.ts.1
          refine ⟨by unfold hideA; rw [maskP_len] at *; omega, fun d x u hx hu => ?_⟩
          unfold hideA at hx
          rw [maskP_get, Nat.zero_add] at hx
          obtain ⟨y, hy, rfl⟩ := Option.map_eq_some_iff.1 hx
          cases hhd' : hidA ops (h0 ++ heads pre ++ hs) (lis.setIfInBounds i0 true) d with
          | true => exact .any _
          | false =>
            refine g'.ts.2 d y u ?_ hu
            have hold : hidA ops (h0 ++ heads pre) lis d = false := hidA_false fun j hj hdj => by
              cases hlj : lis.getD j false with
              | true => rfl
              | false =>
                exfalso
                have : hidA ops (h0 ++ heads pre ++ hs) (lis.setIfInBounds i0 true) d = true := hidA_spec.2 ⟨j, List.mem_append_left _ hj, by
                  rw [setD _ _ _ hils, if_neg]
                  · exact hlj
                  · rintro rfl
                    rw [List.nodup_append] at hnd0
                    exact hnd0.2.2 i0 (hsub i0 hj) i0 (List.mem_map.2 ⟨(i0, la, hs), by rw [hpp]; exact List.mem_append_right _ (List.mem_cons_self ..), rfl⟩) rfl, hdj⟩
                rw [hhd'] at this; cases this
            rw [maskP_get, Nat.zero_add, hold]
            rw [← hframe d]
            · rw [hy]; rfl
            · intro o2 ho2 hd
              obtain ⟨q, hq2⟩ := List.mem_iff_getElem?.1 ho2
              rw [hix.2] at hq2
              obtain ⟨j, hj, hoj⟩ := Option.bind_eq_some_iff.1 hq2
              have hjs : j ∈ hs := List.mem_of_getElem? hj
              have hlj : lis.getD j false = false := by
                cases hlj : lis.getD j false with
                | false => rfl
                | true =>
                  exfalso
                  obtain ⟨o3, ho3, hc⟩ := hcs j hjs
                  have := comes_listed hcl (fun e he hb => hcl j o3 ho3 hlj e he hb) hc
                  rw [hif] at this; cases this
              have : hidA ops (h0 ++ heads pre ++ hs) (lis.setIfInBounds i0 true) d = true := hidA_spec.2 ⟨j, List.mem_append_right _ hjs, by
                rw [setD _ _ _ hils, if_neg]
                · exact hlj
                · rintro rfl
                  rw [List.nodup_append] at hnd0
                  exact hnd0.2.2 i0 (hsH i0 hjs) i0 (List.mem_map.2 ⟨(i0, la, hs), by rw [hpp]; exact List.mem_append_right _ (List.mem_cons_self ..), rfl⟩) rfl, by unfold dstOf; rw [hoj]; exact hd⟩
              rw [hhd'] at this; cases this
theorem Ok.stages {id : Nat} {l : List Oper} {t h : List V} {n : Nat} (m : Nat) (h0 : List Nat) (pl : List Stg) (hm : P.follows .mixedOrders = true) (hB : stagesB l m h0 pl = true) (hl : t.length = m)
    (hs : SOps P l.toArray (ixs l.toArray h0) t n fun t' n' => Pend P l.toArray Q pl t' h n') : Ok P (.region id l.toArray true) t h n Q := by
  intro base w0 hv σ a w g
  refine wp_region_any hm ?_
  simp only [stagesB, Bool.and_eq_true, decide_eq_true_eq] at hB
  obtain ⟨⟨⟨⟨⟨hB1, hB2⟩, hB3⟩, hB4⟩, hB5⟩, hB6⟩ := hB
  have hsz : l.toArray.size = l.length := by simp
  have hbd : ∀ i ∈ h0 ++ heads pl, i < l.toArray.size := fun i hi => by
    have := List.all_eq_true.1 hB6 i (List.mem_append_left _ hi)
    simpa using this
  obtain ⟨tF, nF, htl, hn, hlF, hframe, r, c, hall, hdis⟩ := SOps.all _ _ _ _ hs hl hB1
  have hix := ixs_get (ops := l.toArray) (is := h0) fun j hj => hbd j (List.mem_append_left _ hj)
  have hq : ∀ j ∈ h0, ∀ o', l.toArray[j]? = some o' → (ixs l.toArray h0)[h0.idxOf j]? = some o' := fun j hj o' ho' => by
    rw [hix.2, List.getElem?_eq_getElem (List.idxOf_lt_length_of_mem hj), List.getElem_idxOf]
    exact ho'
  have hH0 : h0 ++ heads ([] : List Stg) = h0 := by simp [heads]
  refine stages_run (m := m) (h0 := h0) (plan := pl) (fun i hi => List.all_eq_true.1 hB2 i hi) hB3 ?_ hB4 ?_ hbd l.toArray.size (List.range l.toArray.size) _ a _ (by simp) List.nodup_range (by simp) ?_ (fun i hi => List.mem_range.1 hi) ?_ ?_
  · intro i hi
    have := List.all_eq_true.1 hB5 i (List.mem_range.2 (by omega))
    rw [Bool.and_eq_true] at this
    have h1 : i ∈ h0 ++ heads pl ++ pl.map (·.1) := by simpa using this.1
    rcases List.mem_append.1 h1 with h | h
    · exact .inl h
    · obtain ⟨e, he, hei⟩ := List.mem_map.1 h
      exact .inr ⟨e, he, hei⟩
  · intro i o ho
    have hi : i < l.toArray.size := (Array.getElem?_eq_some_iff.1 ho).1
    have := List.all_eq_true.1 hB5 i (List.mem_range.2 (by omega))
    rw [Bool.and_eq_true, ho] at this
    exact this.2
  · intro i hi
    simp only [List.mem_range, hi, iff_true]
    rw [Array.getD_eq_getD_getElem?, Array.getElem?_replicate]
    split <;> rfl
  · intro i o ho hl
    rw [Array.getD_eq_getD_getElem?, Array.getElem?_replicate] at hl
    split at hl <;> cases hl
  · have hrep : ∀ i, (Array.replicate l.toArray.size false).getD i false = false := by
      intro i
      rw [Array.getD_eq_getD_getElem?, Array.getElem?_replicate]
      split <;> rfl
    refine ⟨[], pl, tF, h, nF, σ, fun j => r (h0.idxOf j), fun j => c (h0.idxOf j), hlF, rfl, (fun e he => by cases he), (fun e _ => hrep _), ?_, ?_, htl, ?_⟩
    · intro i hi o ho _
      rw [hH0] at hi
      obtain ⟨h1, h2, h3⟩ := hall _ _ (hq i hi o ho)
      dsimp only
      exact ⟨h1, by have := g.inv.pos; omega, h3, fun L hL _ => g.inv.fresh L (by omega)⟩
    · intro i j hi hj hne _ _
      rw [hH0] at hi hj
      have l1 := List.idxOf_lt_length_of_mem hi
      have l2 := List.idxOf_lt_length_of_mem hj
      have hd : h0.idxOf i ≠ h0.idxOf j := fun h => hne (by
        have e1 := List.getElem_idxOf l1
        have e2 := List.getElem_idxOf l2
        rw [← e1, ← e2]; simp only [h])
      rcases Nat.lt_or_gt_of_ne hd with h | h
      · exact .inl (hdis _ _ h (by rw [hix.1]; exact l2))
      · exact .inr (hdis _ _ h (by rw [hix.1]; exact l1))
    · have hk0 : Keeps none base σ w σ { w with drawn := w.drawn + 1 } := ⟨fun _ h => ⟨h, rfl⟩, fun _ _ _ _ _ h => ⟨h, rfl⟩⟩
      rw [hH0]
      refine ⟨?_, g.hs.keep hk0, g.dfr, ⟨g.bel.os, g.bel.tape, g.bel.output, g.bel.size, g.bel.block⟩, ⟨g.inv.bs, by have := g.inv.pos; omega, g.inv.zero, fun L hL => g.inv.fresh L (by omega), g.inv.own, g.inv.inj⟩, g.gk⟩
      refine Ms.keep hk0 ?_
      have h1 := g.ts.1
      refine ⟨by unfold hideA; rw [maskP_len]; omega, fun d x u hx hu => ?_⟩
      unfold hideA at hx
      rw [maskP_get, Nat.zero_add] at hx
      obtain ⟨y, hy, rfl⟩ := Option.map_eq_some_iff.1 hx
      cases hhd : hidA l.toArray h0 (Array.replicate l.toArray.size false) d with
      | true => exact .any _
      | false =>
        refine g.ts.2 d y u ?_ hu
        rw [← hframe d]
        · exact hy
        · intro o ho hd
          obtain ⟨q, hq2⟩ := List.mem_iff_getElem?.1 ho
          rw [hix.2] at hq2
          obtain ⟨j, hj, hoj⟩ := Option.bind_eq_some_iff.1 hq2
          have : hidA l.toArray h0 (Array.replicate l.toArray.size false) d = true := hidA_spec.2 ⟨j, List.mem_of_getElem? hj, hrep j, by unfold dstOf; rw [hoj]; exact hd⟩
          rw [hhd] at this
          cases this
theorem le_sum {i : Nat} : ∀ {l : List Nat}, i ∈ l → i ≤ l.sum
  | a :: l, h => by
    rw [List.sum_cons]
    rcases List.mem_cons.1 h with rfl | h
    · omega
    · have := le_sum h; omega
theorem LateOk.A {t1 h' t' : List V} {n1 : Nat} {late : List Nat} (h : LateOk P ops t' late) (hn : 1 ≤ n1) : LateA P ops t1 h' n1 t' late :=
  ⟨late.sum + 1, 1, 0, fun i hi _ o ho => h i hi o ho, Nat.le_refl _, by omega, fun hi => by have := le_sum hi; omega⟩
theorem LateA.alloc {ti : Tab} {t1 h' t' : List V} {n1 ia ra d : Nat} {oa : Oper} {X : V} {la la' : List Nat} (hti : TabOk P ti) (hia : ops[ia]? = some oa) (hg : oa.guard = none) (hd : oa.dst = some d) (hs : slot t' oa = X) (he : ev1 ti t' ra oa.type oa.op = some (X, ra + 1)) (h1 : 1 ≤ ra) (h2 : ra + 1 ≤ n1)
    (hh : ra ∉ V.labelsL h') (ht : ra ∉ V.labelsL (t1.set d .any)) (hk : LateOk P ops t' la') (hla : ∀ i ∈ la, i = ia ∨ i ∈ la') : LateA P ops t1 h' n1 t' la := by
  refine ⟨ia, ra, 1, fun i hi hne o ho => ?_, h1, h2, fun hi o ho => ⟨?_, fun L l1 l2 => ?_⟩⟩
  · rcases hla i hi with h | h
    · exact absurd h hne
    · exact hk i h o ho
  · rw [hia] at ho
    obtain rfl := Option.some.inj ho
    rw [ev1_congr (t' := mask (oa.looksAt ops) t') oa.op oa.type fun x hx => (opnd_mask hx).symm] at he
    obtain ⟨c, hc, hs'⟩ := ev1_S hti rfl he
    obtain rfl : c = 1 := by omega
    exact ⟨X, .inr hs, .inl ⟨hg, hs'⟩⟩
  · rw [hia] at ho
    obtain rfl := Option.some.inj ho
    obtain rfl : L = ra := by omega
    refine ⟨hh, fun d' x hx hL => ?_⟩
    by_cases e : d' = d
    · rw [e]; exact hd
    · exfalso
      refine ht (mem_labelsL.2 ⟨x, List.mem_of_getElem? (i := d') ?_, hL⟩)
      rw [List.getElem?_set_ne (Ne.symm e)]; exact hx
theorem Pend.nil {t h : List V} {n : Nat} (hq : Q .normal t h n) : Pend P ops Q [] t h n := hq
theorem Pend.step {i : Nat} {la hs : List Nat} {rest : List Stg} {b : Oper} {t t1 h h' : List V} {n n1 : Nat} (hb : ops[i]? = some b) (hg : b.guard = none) (hl : t1.length = t.length) (ho : OpT P ops b t h n t1 h' n1)
    (hk : SOps P ops (ixs ops hs) t1 n1 fun t' n' => LateA P ops t1 h' n1 t' la ∧ Pend P ops Q rest t' h' n') : Pend P ops Q ((i, la, hs) :: rest) t h n := ⟨b, t1, h', n1, hb, hg, hl, ho, hk⟩
end
end Go.Proofs.YtliiphpbfambcaaGreatDoor.K
