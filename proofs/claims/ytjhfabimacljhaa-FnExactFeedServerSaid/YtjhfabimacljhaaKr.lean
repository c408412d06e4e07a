/- Regions that draw their order: the text's order serves every order. Nothing here depends on the program. -/
import Derived.Test.YtjhfabimacljhaaKq
import Derived.Orders
namespace Go.Proofs.Ytjhfabimacljhaa.K
open Go Go.RowKit
set_option linter.unusedVariables false
set_option linter.unusedSimpArgs false

/-- Slots hidden. -/
def maskP (f : Nat → Bool) : Nat → List V → List V
  | _, [] => []
  | i, x :: l => (if f i then x else .any) :: maskP f (i + 1) l
theorem maskP_get (f : Nat → Bool) (l : List V) : ∀ (i j : Nat), (maskP f i l)[j]? = (l[j]?).map fun x => if f (i + j) then x else .any := by
  induction l with
  | nil => intro i j; simp [maskP]
  | cons x l ih =>
    intro i j
    cases j with
    | zero => simp [maskP]
    | succ j => simp only [maskP, List.getElem?_cons_succ, ih]; rw [show i + 1 + j = i + (j + 1) by omega]
theorem maskP_len (f : Nat → Bool) (l : List V) : ∀ i, (maskP f i l).length = l.length := by
  induction l with
  | nil => intro i; rfl
  | cons x l ih => intro i; simp [maskP, ih]
theorem maskP_nth {f : Nat → Bool} {l : List V} {d : Nat} : nth (maskP f 0 l) d = if f d then nth l d else .any := by
  rw [nth_eq, nth_eq, List.getD_eq_getElem?_getD, List.getD_eq_getElem?_getD, maskP_get, Nat.zero_add]
  cases l[d]? with
  | none => simp
  | some x => simp
theorem maskP_congr {f g : Nat → Bool} {l l' : List V} (hl : l.length = l'.length) (h : ∀ (d : Nat), (f d = g d) ∧ (f d = true → l[d]? = l'[d]?)) : maskP f 0 l = maskP g 0 l' := by
  apply List.ext_getElem?
  intro d
  rw [maskP_get, maskP_get, Nat.zero_add, ← (h d).1]
  by_cases hf : f d = true
  · rw [(h d).2 hf]
  · have : f d = false := by simpa using hf
    rw [this]
    by_cases hd : d < l.length
    · rw [List.getElem?_eq_getElem hd, List.getElem?_eq_getElem (hl ▸ hd)]; rfl
    · rw [List.getElem?_eq_none (by omega), List.getElem?_eq_none (by omega)]
theorem maskP_true {f : Nat → Bool} {l : List V} (h : ∀ d, f d = true) : maskP f 0 l = l := by
  apply List.ext_getElem?
  intro d
  rw [maskP_get, Nat.zero_add, h d]
  cases l[d]? <;> simp
theorem maskP_put {f : Nat → Bool} {l : List V} {o : Option Tmp} {x : V} (h : ∀ d, o = some d → f d = true) : putV (maskP f 0 l) o x = maskP f 0 (putV l o x) := by
  cases o with
  | none => rfl
  | some d =>
    apply List.ext_getElem?
    intro j
    simp only [putV]
    rw [maskP_get, List.getElem?_set, List.getElem?_set, maskP_get, maskP_len, Nat.zero_add]
    by_cases hd : d = j
    · subst hd
      rw [if_pos rfl, if_pos rfl]
      split
      · simp [h d rfl]
      · rfl
    · rw [if_neg hd, if_neg hd]
def mask (ls : List Nat) (t : List V) : List V := maskP (fun d => ls.contains d) 0 t
theorem nth_of_get {t t' : List V} {d : Nat} (h : t[d]? = t'[d]?) : nth t d = nth t' d := by
  rw [nth_eq, nth_eq, List.getD_eq_getElem?_getD, List.getD_eq_getElem?_getD, h]
theorem nth_some {t : List V} {d : Nat} {x : V} (h : t[d]? = some x) : nth t d = x := by
  rw [nth_eq, List.getD_eq_getElem?_getD, h]; rfl

theorem undef_M {base : Base} {σ : Sig} {w : World} : M base σ w (.tup []) undef := .tup [] [] rfl (by simp)
/-- The guard's slot, where the guard's own operation was passed over. -/
theorem yielded_un {ops : Array Oper} {t : List V} {base : Base} {σ : Sig} {w : World} {a : Act} (ht : Ms base σ w t a.tmps.toList) {j d : Nat} (hd : (ops[j]?).bind (·.dst) = some d) (hb : nth t d = .tup []) : yielded ops a.tmps j = none := by
  unfold yielded
  rw [hd]
  show (match a.tmps[d]? with | some (.bool b) => some b | _ => none) = none
  rw [nth_eq] at hb
  have hi : d < t.length := by
    rcases Nat.lt_or_ge d t.length with h | h
    · exact h
    · rw [List.getD_eq_getElem?_getD, List.getElem?_eq_none h] at hb; cases hb
  have h1 : t[d]? = some t[d] := List.getElem?_eq_getElem hi
  have hl : d < a.tmps.toList.length := by have := ht.1; omega
  have h2 : a.tmps.toList[d]? = some a.tmps.toList[d] := List.getElem?_eq_getElem hl
  have hm := ht.2 d _ _ h1 h2
  have e1 : t.getD d .any = t[d] := by simp [List.getD_eq_getElem?_getD, h1]
  rw [← e1, hb] at hm
  have e2 : a.tmps[d]? = some a.tmps.toList[d] := by
    have : d < a.tmps.size := by simpa using hl
    simp [this]
  rw [e2]
  generalize a.tmps.toList[d] = v at hm
  cases hm
  rfl

/-- An operation with its guard, in a frame: the value that it leaves in its slot. -/
def StepS (P : Program) (ops : Array Oper) (o : Oper) (t : List V) (r : Nat) (X : V) (c : Nat) : Prop :=
  (o.guard = none ∧ OpS P o (mask (o.looksAt ops) t) r X c) ∨
  (∃ j d want, o.guard = some (j, want) ∧ (ops[j]?).bind (·.dst) = some d ∧ ((nth t d = .bool want ∧ OpS P o (mask (o.looksAt ops) t) r X c) ∨ ((nth t d = .bool (!want) ∨ nth t d = .tup []) ∧ (X = .any ∨ X = .tup []) ∧ c = 0)))
def slot (t : List V) (o : Oper) : V := match o.dst with | some d => nth t d | none => .any

section
variable {P : Program} {ops : Array Oper} {o : Oper} {t t' : List V} {r c : Nat} {X : V}
theorem guard_looks {j d : Nat} {want : Bool} (hg : o.guard = some (j, want)) (hd : (ops[j]?).bind (·.dst) = some d) : d ∈ o.looksAt ops := by
  unfold Oper.looksAt
  refine List.mem_append_right _ ?_
  rw [hg]
  simp [hd]
theorem mask_congr (hl : t.length = t'.length) (h : ∀ d ∈ o.looksAt ops, t[d]? = t'[d]?) : mask (o.looksAt ops) t = mask (o.looksAt ops) t' := by
  refine maskP_congr hl fun d => ⟨rfl, fun hd => h d ?_⟩
  simpa using hd
theorem StepS.congr (hs : StepS P ops o t r X c) (hl : t.length = t'.length) (h : ∀ d ∈ o.looksAt ops, t[d]? = t'[d]?) : StepS P ops o t' r X c := by
  unfold StepS at *
  rw [← mask_congr hl h]
  rcases hs with hs | ⟨j, d, want, hg, hd, hs⟩
  · exact .inl hs
  · exact .inr ⟨j, d, want, hg, hd, by rw [← nth_of_get (h d (guard_looks hg hd))]; exact hs⟩

theorem mask_M {base : Base} {σ : Sig} {w : World} {a : Act} {t2 : List V} (ht : Ms base σ w t2 a.tmps.toList) (h : ∀ d ∈ o.looksAt ops, nth t2 d = nth t d) (y : Operand) : M base σ w (opnd (mask (o.looksAt ops) t) y) (a.eval y) := by
  cases y with
  | tmp d =>
    show M base σ w (nth (mask (o.looksAt ops) t) d) _
    unfold mask
    rw [maskP_nth]
    split
    · rename_i hd
      rw [← h d (by simpa using hd)]
      exact opnd_M ht (.tmp d)
    · exact .any _
  | const v => exact constV_M base σ w v
  | func f => exact .fn f [] [] rfl (by simp)
  | global g => exact .any _

theorem StepS.run {i : Nat} (hi : ops[i]? = some o) (hs : StepS P ops o t r X c) {base : Base} {w0 : World} {hv : List Value} {t2 h : List V} {N : Nat} {σ : Sig} {a : Act} {w : World} (g : Good base w0 hv t2 h N σ a w)
    (hag : ∀ d ∈ o.looksAt ops, nth t2 d = nth t d) (hr : 1 ≤ r) (hN : r + c ≤ N) (hf : ∀ L, r ≤ L → L < r + c → σ L = none) {K : Act → World → Prop} {Q : Exit → Act → World → Prop}
    (hK : ∀ σ' a' w', Good base w0 hv (putV t2 o.dst X) h N σ' a' w' → (∀ L, ¬(r ≤ L ∧ L < r + c) → σ' L = σ L) → K a' w') : wpOp P ops Q i K a w := by
  have go : OpS P o (mask (o.looksAt ops) t) r X c → o.wp P a w K Q := fun hs => by
    refine hs.run g hr hf (mask_M g.ts hag) K Q fun σ' a' w' g' hσ => ?_
    rw [show max N (r + c) = N by omega] at g'
    exact hK σ' a' w' g' hσ
  unfold wpOp
  simp only [hi]
  rcases hs with ⟨hg, hs⟩ | ⟨j, d, want, hg, hd, hs⟩
  · rw [if_pos (wanted_none hg _)]
    exact .inl (go hs)
  · have hw : ∀ b, yielded ops a.tmps j = b → Region.wanted o (yielded ops a.tmps) = (b == some want) := by
      intro b hb
      simp only [Region.wanted, hg, hb]
    rcases hs with ⟨hb, hs⟩ | ⟨hb, hX, rfl⟩
    · have hy := yielded_of (ops := ops) g.ts hd (by rw [hag d (guard_looks hg hd)]; exact hb)
      rw [hw _ hy, if_pos (by simp)]
      exact .inl (go hs)
    · have hn : Region.wanted o (yielded ops a.tmps) = false := by
        rcases hb with hb | hb
        · rw [hw _ (yielded_of (ops := ops) g.ts hd (by rw [hag d (guard_looks hg hd)]; exact hb))]
          cases want <;> rfl
        · rw [hw _ (yielded_un (ops := ops) g.ts hd (by rw [hag d (guard_looks hg hd)]; exact hb))]
          rfl
      rw [hn, if_neg (by simp)]
      refine hK σ _ w ⟨g.ts.put _ ?_, g.hs, by cases o.dst <;> exact g.dfr, g.bel, g.inv⟩ fun _ _ => rfl
      rcases hX with rfl | rfl
      · exact .any _
      · exact undef_M
end

/-- The text's order: operations that write nothing that is there. -/
def SOps (P : Program) (ops : Array Oper) : List Oper → List V → Nat → (List V → Nat → Prop) → Prop
  | [], t, n, Q => Q t n
  | o :: l, t, n, Q => ∃ X c, StepS P ops o t n X c ∧ SOps P ops l (putV t o.dst X) (n + c) Q

/-- An operation of the tail: whatever slots it does not look at may be hidden. -/
def OpT (P : Program) (ops : Array Oper) (b : Oper) (t h : List V) (n : Nat) (t' h' : List V) (n' : Nat) : Prop :=
  ∀ f : Nat → Bool, (∀ d ∈ b.looksAt ops, f d = true) → (∀ d, b.dst = some d → f d = true) → OpOk P b (maskP f 0 t) h n (maskP f 0 t') h' n'
/-- The tail: one behind the other; 'late' may come up between them. -/
def TOps (P : Program) (ops : Array Oper) (late : List Nat) (Q : Exit → List V → List V → Nat → Prop) : List Oper → List V → List V → Nat → Prop
  | [], t, h, n => Q .normal t h n
  | b :: tl, t, h, n => ∃ t' h' n', b.guard = none ∧ ((late = [] ∧ OpOk P b t h n t' h' n') ∨ OpT P ops b t h n t' h' n') ∧
      (∀ i ∈ late, ∀ o, ops[i]? = some o → ∃ X, (o.dst = none ∨ slot t' o = X) ∧ StepS P ops o t' 1 X 0) ∧ TOps P ops late Q tl t' h' n'

def direct (o : Oper) (j : Nat) : Bool := o.after.any fun e => Region.binds .any e && e.on == j
def back (o : Oper) (i : Nat) : Bool := o.after.all fun e => !Region.binds .any e || decide (e.on < i)
/-- Nobody behind writes what o looks at, or its slot. -/
def sepB (ops : Array Oper) (m : Nat) : List Oper → Bool
  | [] => true
  | o :: l => (match o.dst with | some d => !(o.looksAt ops).contains d && decide (d < m) | none => true) &&
      l.all (fun o' => match o'.dst with | some d => !(o.looksAt ops).contains d && o.dst != some d | none => true) && sepB ops m l
def headB (ops : Array Oper) (k : Nat) (i : Nat) : Bool :=
  match ops[i]? with
  | none => true
  | some o => back o i && (List.range k).all fun j => match (ops[j]?).bind (·.dst) with | none => true | some d => (j == i || o.dst != some d) && (!(o.looksAt ops).contains d || (direct o j && j != i))
/-- o comes behind j, by a chain of edges. -/
def reachB (ops : Array Oper) : Nat → Oper → Nat → Bool
  | 0, o, j => direct o j
  | f + 1, o, j => direct o j || o.after.any fun e => Region.binds .any e && (match ops[e.on]? with | some o' => reachB ops f o' j | none => false)
def tailB (ops : Array Oper) (k : Nat) (late : List Nat) (i : Nat) : Bool :=
  match ops[i]? with
  | none => true
  | some o => back o i && ((List.range i).all fun j => (late.contains j && decide (j < k)) || (direct o j || reachB ops 12 o j)) && (List.range k).all fun j => match (ops[j]?).bind (·.dst) with | none => true | some d => o.dst != some d && (!(o.looksAt ops).contains d || direct o j)
def drawnB (l : List Oper) (k m : Nat) (late : List Nat) : Bool :=
  sepB l.toArray m (l.take k) && decide (k ≤ l.length) && (List.range k).all (headB l.toArray k) && (List.range l.length).all fun i => decide (i < k) || tailB l.toArray k late i

theorem SOps.all {P : Program} {ops : Array Oper} {m : Nat} : ∀ (l : List Oper) (t : List V) (n : Nat) (Q : List V → Nat → Prop), SOps P ops l t n Q → t.length = m → sepB ops m l = true →
    ∃ tF nF, Q tF nF ∧ n ≤ nF ∧ tF.length = m ∧ (∀ d, (∀ o ∈ l, o.dst ≠ some d) → tF[d]? = t[d]?) ∧
      ∃ r c : Nat → Nat, (∀ i o, l[i]? = some o → (∃ X, (o.dst = none ∨ slot tF o = X) ∧ StepS P ops o tF (r i) X (c i)) ∧ n ≤ r i ∧ r i + c i ≤ nF) ∧ (∀ i j, i < j → j < l.length → r i + c i ≤ r j)
  | [], t, n, Q, h, hm, _ => ⟨t, n, h, Nat.le_refl _, hm, fun _ _ => rfl, fun _ => n, fun _ => 0, by simp, by simp⟩
  | o :: l, t, n, Q, h, hm, hs => by
    obtain ⟨X, c0, hst, hrest⟩ := h
    simp only [sepB, Bool.and_eq_true] at hs
    obtain ⟨⟨hs1, hs2⟩, hs3⟩ := hs
    have hlen : (putV t o.dst X).length = m := by cases o.dst <;> simp [putV, hm]
    obtain ⟨tF, nF, hQ, hn, hl, hframe, r, c, hall, hdis⟩ := SOps.all l _ _ Q hrest hlen hs3
    have hl2 : ∀ o' ∈ l, ∀ d, o'.dst = some d → d ∉ o.looksAt ops ∧ o.dst ≠ some d := by
      intro o' ho' d hd
      have := List.all_eq_true.1 hs2 o' ho'
      rw [hd] at this
      simp only [Bool.and_eq_true, Bool.not_eq_true', bne_iff_ne, ne_eq] at this
      exact ⟨by simpa using this.1, this.2⟩
    have hput : ∀ d, o.dst ≠ some d → (putV t o.dst X)[d]? = t[d]? := by
      intro d hd
      cases hdst : o.dst with
      | none => rfl
      | some e =>
        simp only [putV]
        rw [List.getElem?_set_ne]
        rintro rfl
        exact hd hdst
    have hlook : ∀ d ∈ o.looksAt ops, t[d]? = tF[d]? := by
      intro d hd
      rw [hframe d (fun o' ho' he => (hl2 o' ho' d he).1 hd), hput d]
      intro he
      rw [he] at hs1
      simp only [Bool.and_eq_true, Bool.not_eq_true'] at hs1
      have := hs1.1
      simp [hd] at this
    have hX : o.dst = none ∨ slot tF o = X := by
      unfold slot
      cases hdst : o.dst with
      | none => exact .inl rfl
      | some d =>
        right
        rw [hdst] at hs1
        simp only [Bool.and_eq_true, decide_eq_true_eq] at hs1
        refine nth_some ?_
        rw [hframe d (fun o' ho' he => (hl2 o' ho' d he).2 hdst), hdst]
        simp only [putV]
        rw [List.getElem?_set, if_pos rfl, if_pos (by rw [hm]; exact hs1.2)]
    refine ⟨tF, nF, hQ, by omega, hl, fun d hd => ?_, fun i => match i with | 0 => n | i + 1 => r i, fun i => match i with | 0 => c0 | i + 1 => c i, ?_, ?_⟩
    · rw [hframe d fun o' ho' => hd o' (List.mem_cons_of_mem _ ho'), hput d (hd o (List.mem_cons_self ..))]
    · intro i o' ho'
      cases i with
      | zero =>
        obtain rfl : o = o' := by simpa using ho'
        exact ⟨⟨X, hX, hst.congr (by omega) hlook⟩, Nat.le_refl _, hn⟩
      | succ i =>
        obtain ⟨h1, h2, h3⟩ := hall i o' (by simpa using ho')
        exact ⟨h1, Nat.le_trans (Nat.le_add_right _ _) h2, h3⟩
    · intro i j hij hj
      cases j with
      | zero => omega
      | succ j =>
        simp only [List.length_cons] at hj
        cases i with
        | zero =>
          have := (hall j l[j] (List.getElem?_eq_getElem (by omega))).2.1
          exact this
        | succ i => exact hdis i j (by omega) (by omega)

section
variable {P : Program} {ops : Array Oper} {k m : Nat} {late : List Nat} {Q : Exit → List V → List V → Nat → Prop}
/-- Slots of operations that have not come up. -/
def hid (ops : Array Oper) (k : Nat) (lis : Array Bool) (d : Nat) : Bool := (List.range k).any fun j => !lis.getD j false && (ops[j]?).bind (·.dst) == some d
def hide (ops : Array Oper) (k : Nat) (lis : Array Bool) (t : List V) : List V := maskP (fun d => !hid ops k lis d) 0 t
theorem hid_spec {lis : Array Bool} {d : Nat} : hid ops k lis d = true ↔ ∃ j, j < k ∧ lis.getD j false = false ∧ (ops[j]?).bind (·.dst) = some d := by
  unfold hid
  rw [List.any_eq_true]
  constructor
  · rintro ⟨j, hj, h⟩
    simp only [Bool.and_eq_true, Bool.not_eq_true', beq_iff_eq] at h
    exact ⟨j, List.mem_range.1 hj, h.1, h.2⟩
  · rintro ⟨j, hj, h1, h2⟩
    exact ⟨j, List.mem_range.2 hj, by simp only [Bool.and_eq_true, Bool.not_eq_true', beq_iff_eq]; exact ⟨h1, h2⟩⟩
theorem hid_false {lis : Array Bool} {d : Nat} (h : ∀ j, j < k → (ops[j]?).bind (·.dst) = some d → lis.getD j false = true) : hid ops k lis d = false := by
  cases hh : hid ops k lis d with
  | false => rfl
  | true =>
    obtain ⟨j, h1, h2, h3⟩ := hid_spec.1 hh
    rw [h j h1 h3] at h2
    cases h2
theorem getD_set (lis : Array Bool) (i j : Nat) : (lis.setIfInBounds i true).getD j false = if i = j ∧ i < lis.size then true else lis.getD j false := by
  simp only [Array.getD_eq_getD_getElem?, Array.getElem?_setIfInBounds]
  by_cases h : i = j
  · subst h
    by_cases hl : i < lis.size
    · simp [hl]
    · simp [hl]
  · simp [h]

/-- What holds while the order is being drawn. -/
def J (P : Program) (ops : Array Oper) (k : Nat) (late : List Nat) (Q : Exit → List V → List V → Nat → Prop) (base : Base) (w0 : World) (hv : List Value) (lis : Array Bool) (a : Act) (w : World) : Prop :=
  ∃ p t h n σ, ∃ r c : Nat → Nat, k + p ≤ ops.size ∧ (∀ i, k ≤ i → i < ops.size → (lis.getD i false = true ↔ i < k + p)) ∧
    (∀ i o, i < k → ops[i]? = some o → lis.getD i false = false → (∃ X, (o.dst = none ∨ slot t o = X) ∧ StepS P ops o t (r i) X (c i)) ∧ 1 ≤ r i ∧ r i + c i ≤ n ∧ (∀ L, r i ≤ L → L < r i + c i → σ L = none) ∧ (0 < p → late.contains i = true)) ∧
    (∀ i j, i < k → j < k → i ≠ j → lis.getD i false = false → lis.getD j false = false → r i + c i ≤ r j ∨ r j + c j ≤ r i) ∧
    TOps P ops late Q (ops.toList.drop (k + p)) t h n ∧ Good base w0 hv (hide ops k lis t) h n σ a w

theorem direct_listed {o : Oper} {lis : Array Bool} {j : Nat} (h : ∀ e ∈ o.after, Region.binds .any e = true → lis.getD e.on false = true) (hd : direct o j = true) : lis.getD j false = true := by
  unfold direct at hd
  obtain ⟨e, he, hh⟩ := Array.any_eq_true'.1 hd
  simp only [Bool.and_eq_true, beq_iff_eq] at hh
  rw [← hh.2]
  exact h e he hh.1

/-- What has been done has its forerunners done. -/
def Closed (ops : Array Oper) (lis : Array Bool) : Prop := ∀ (i : Nat) (o : Oper), ops[i]? = some o → lis.getD i false = true → ∀ e ∈ o.after, Region.binds .any e = true → lis.getD e.on false = true
theorem reach_listed {ops : Array Oper} {lis : Array Bool} (hcl : Closed ops lis) {j : Nat} : ∀ (f : Nat) (o : Oper), (∀ e ∈ o.after, Region.binds .any e = true → lis.getD e.on false = true) → reachB ops f o j = true → lis.getD j false = true
  | 0, o, h, hr => direct_listed h hr
  | f + 1, o, h, hr => by
    simp only [reachB, Bool.or_eq_true] at hr
    rcases hr with hr | hr
    · exact direct_listed h hr
    · obtain ⟨e, he, hh⟩ := Array.any_eq_true'.1 hr
      simp only [Bool.and_eq_true] at hh
      obtain ⟨hb, hh⟩ := hh
      split at hh
      · rename_i o' ho'
        exact reach_listed hcl f o' (hcl _ _ ho' (h e he hb)) hh
      · cases hh
theorem any_run {base : Base} {w0 : World} {hv : List Value} (hh : ∀ i, i < k → headB ops k i = true) (ht : ∀ i, k ≤ i → i < ops.size → tailB ops k late i = true) :
    ∀ (fuel : Nat) (ul : List Nat) (lis : Array Bool) (a : Act) (w : World), ul.length = fuel → ul.Nodup → lis.size = ops.size → (∀ i, i < ops.size → (lis.getD i false = false ↔ i ∈ ul)) → (∀ i ∈ ul, i < ops.size) → Closed ops lis →
      J P ops k late Q base w0 hv lis a w → wpAny P .any ops (Post base w0 hv Q) fuel lis a w := by
  have hback : ∀ i o, ops[i]? = some o → back o i = true := by
    intro i o ho
    have hi : i < ops.size := (Array.getElem?_eq_some_iff.1 ho).1
    by_cases hik : i < k
    · have := hh i hik
      unfold headB at this
      rw [ho] at this
      simp only [Bool.and_eq_true] at this
      exact this.1
    · have := ht i (by omega) hi
      unfold tailB at this
      rw [ho] at this
      simp only [Bool.and_eq_true] at this
      exact this.1.1
  have hready : ∀ (lis : Array Bool), lis.size = ops.size → Region.ready .any ops lis = [] → ∀ i, i < ops.size → lis.getD i false = true := by
    intro lis hsz hr i
    induction i using Nat.strongRecOn with
    | ind i ih =>
      intro hi
      cases hli : lis.getD i false with
      | true => rfl
      | false =>
        exfalso
        have hmem : i ∈ Region.ready .any ops lis := by
          rw [mem_ready]
          refine ⟨?_, ops[i], by simp [hi], fun e he hb => ?_⟩
          · rw [Array.getD_eq_getD_getElem?, Array.getElem?_eq_getElem (by omega)] at hli ⊢
            exact hli
          · have := hback i ops[i] (by simp [hi])
            unfold back at this
            have := Array.all_eq_true_iff_forall_mem.1 this e he
            simp only [Bool.or_eq_true, Bool.not_eq_true', hb, Bool.true_eq_false, false_or, decide_eq_true_eq] at this
            exact ih e.on this (by omega)
        rw [hr] at hmem
        cases hmem
  intro fuel
  induction fuel with
  | zero =>
    intro ul lis a w hul hnd hsz hun hin hcl hJ
    obtain rfl : ul = [] := List.eq_nil_of_length_eq_zero hul
    have hall : ∀ i, i < ops.size → lis.getD i false = true := by
      intro i hi
      cases hli : lis.getD i false with
      | true => rfl
      | false => exact absurd ((hun i hi).1 hli) (by simp)
    refine ⟨?_, ?_⟩
    · cases hr : Region.ready .any ops lis with
      | nil => rfl
      | cons x xs =>
        have hx : x ∈ Region.ready .any ops lis := by rw [hr]; exact List.mem_cons_self ..
        rw [mem_ready] at hx
        obtain ⟨h1, o, ho, _⟩ := hx
        have hi : x < ops.size := (Array.getElem?_eq_some_iff.1 ho).1
        have := hall x hi
        rw [Array.getD_eq_getD_getElem?, Array.getElem?_eq_getElem (by omega)] at h1 this
        simp at h1 this
        rw [h1] at this
        cases this
    · obtain ⟨p, t, h, n, σ, r, c, hp, hpl, _, _, htl, g⟩ := hJ
      have hpe : k + p = ops.size := by
        rcases Nat.lt_or_ge (k + p) ops.size with hlt | hge
        · have := (hpl (k + p) (by omega) hlt).1 (hall _ hlt)
          omega
        · omega
      rw [hpe, List.drop_eq_nil_of_le (by simp)] at htl
      have hhide : hide ops k lis t = t := maskP_true fun d => by
        rw [hid_false fun j hj _ => hall j (by omega)]; rfl
      rw [hhide] at g
      exact ⟨t, h, n, σ, htl, g⟩
  | succ fuel ih =>
    intro ul lis a w hul hnd hsz hun hin hcl hJ
    refine ⟨fun hr => ?_, fun i hi => ?_⟩
    · exfalso
      cases ul with
      | nil => simp at hul
      | cons x xs =>
        have h1 := hin x (List.mem_cons_self ..)
        have h2 := hready lis hsz hr x h1
        have h3 := (hun x h1).2 (List.mem_cons_self ..)
        rw [h2] at h3
        cases h3
    · rw [mem_ready] at hi
      obtain ⟨hi0, o, ho, hedge⟩ := hi
      have hisz : i < ops.size := (Array.getElem?_eq_some_iff.1 ho).1
      have hif : lis.getD i false = false := by
        rw [Array.getD_eq_getD_getElem?, Array.getElem?_eq_getElem (by omega)] at hi0 ⊢
        exact hi0
      have hiu := (hun i hisz).1 hif
      have next : ∀ a' w', J P ops k late Q base w0 hv (lis.setIfInBounds i true) a' w' → wpAny P .any ops (Post base w0 hv Q) fuel (lis.setIfInBounds i true) a' w' := by
        intro a' w' hJ'
        refine ih (ul.erase i) _ a' w' (by rw [List.length_erase_of_mem hiu]; omega) (hnd.erase i) (by simp [hsz]) ?_ (fun j hj => hin j (List.mem_of_mem_erase hj)) ?_ hJ'
        · intro j hj
          rw [getD_set, hnd.mem_erase_iff, ← hun j hj]
          by_cases hij : i = j
          · subst hij
            simp [hsz, hisz]
          · rw [if_neg (fun h => hij h.1)]
            exact ⟨fun h => ⟨Ne.symm hij, h⟩, fun h => h.2⟩
        · intro j oj hoj hlj e he hb
          have up : ∀ m, lis.getD m false = true → (lis.setIfInBounds i true).getD m false = true := by
            intro m hm
            rw [getD_set]
            split
            · rfl
            · exact hm
          by_cases hij : i = j
          · subst hij
            rw [ho] at hoj
            obtain rfl := Option.some.inj hoj
            exact up _ (hedge e he hb)
          · rw [getD_set, if_neg (fun h => hij h.1)] at hlj
            exact up _ (hcl j oj hoj hlj e he hb)
      obtain ⟨p, t, h, n, σ, r, c, hp, hpl, hst, hdis, htl, g⟩ := hJ
      by_cases hik : i < k
      · -- one of the first
        have hH := hh i hik
        unfold headB at hH
        rw [ho] at hH
        simp only [Bool.and_eq_true] at hH
        have hsep : ∀ j, j < k → ∀ d, (ops[j]?).bind (·.dst) = some d → (j = i ∨ o.dst ≠ some d) ∧ (d ∈ o.looksAt ops → direct o j = true ∧ j ≠ i) := by
          intro j hj d hd
          have := List.all_eq_true.1 hH.2 j (List.mem_range.2 hj)
          rw [hd] at this
          simp only [Bool.and_eq_true, Bool.or_eq_true, beq_iff_eq, bne_iff_ne, ne_eq, Bool.not_eq_true'] at this
          refine ⟨this.1, fun hm => ?_⟩
          rcases this.2 with h | h
          · simp [hm] at h
          · exact h
        obtain ⟨⟨X, hX, hS⟩, hr1, hrn, hfree, hlate⟩ := hst i o hik ho hif
        refine hS.run ho g ?_ hr1 hrn hfree fun σ' a' w' g' hσ => next a' w' ?_
        · intro d hd
          unfold hide
          rw [maskP_nth, hid_false]
          · rfl
          · intro j hj hdj
            exact direct_listed hedge ((hsep j hj d hdj).2 hd).1
        · refine ⟨p, t, h, n, σ', r, c, hp, ?_, ?_, ?_, htl, ?_⟩
          · intro j hj1 hj2
            rw [getD_set, if_neg (by omega)]
            exact hpl j hj1 hj2
          · intro j o' hj ho' hlj
            rw [getD_set] at hlj
            split at hlj
            · cases hlj
            · rename_i hne
              have hne' : i ≠ j := fun e => hne ⟨e, by omega⟩
              obtain ⟨h1, h2, h3, h4, h5⟩ := hst j o' hj ho' hlj
              refine ⟨h1, h2, h3, fun L hL1 hL2 => ?_, h5⟩
              rw [hσ L]
              · exact h4 L hL1 hL2
              · have := hdis i j hik hj hne' hif hlj
                omega
          · intro j1 j2 hj1 hj2 hne hl1 hl2
            rw [getD_set] at hl1 hl2
            split at hl1
            · cases hl1
            · split at hl2
              · cases hl2
              · exact hdis j1 j2 hj1 hj2 hne hl1 hl2
          · have heq : putV (hide ops k lis t) o.dst X = hide ops k (lis.setIfInBounds i true) t := by
              have hoff : ∀ d, o.dst ≠ some d → hid ops k (lis.setIfInBounds i true) d = hid ops k lis d := by
                intro d hd
                rw [Bool.eq_iff_iff, hid_spec, hid_spec]
                constructor
                · rintro ⟨j, h1, h2, h3⟩
                  rw [getD_set] at h2
                  split at h2
                  · cases h2
                  · exact ⟨j, h1, h2, h3⟩
                · rintro ⟨j, h1, h2, h3⟩
                  refine ⟨j, h1, ?_, h3⟩
                  rw [getD_set, if_neg]
                  · exact h2
                  · rintro ⟨rfl, _⟩
                    rw [ho] at h3
                    exact hd h3
              cases hdst : o.dst with
              | none =>
                refine maskP_congr rfl fun d => ⟨?_, fun _ => rfl⟩
                rw [hoff d (by rw [hdst]; simp)]
              | some d0 =>
                have hX' : nth t d0 = X := by
                  rcases hX with hX | hX
                  · rw [hdst] at hX; cases hX
                  · unfold slot at hX; rw [hdst] at hX; exact hX
                apply List.ext_getElem?
                intro d
                simp only [putV]
                unfold hide
                rw [List.getElem?_set, maskP_get, maskP_get, maskP_len, Nat.zero_add]
                by_cases hd : d0 = d
                · subst hd
                  rw [if_pos rfl, hid_false]
                  · by_cases hdl : d0 < t.length
                    · rw [if_pos hdl, List.getElem?_eq_getElem hdl]
                      rw [nth_some (List.getElem?_eq_getElem hdl)] at hX'
                      simp [hX']
                    · rw [if_neg hdl, List.getElem?_eq_none (Nat.le_of_not_lt hdl)]; rfl
                  · intro j hj hdj
                    rw [getD_set]
                    have := (hsep j hj d0 hdj).1
                    rcases this with h | h
                    · rw [if_pos ⟨h.symm, by omega⟩]
                    · exact absurd hdst h
                · rw [if_neg hd, hoff d (by rw [hdst]; intro h; exact hd (Option.some.inj h))]
            rw [← heq]
            exact g'
      · -- one of the tail
        have hT := ht i (by omega) hisz
        unfold tailB at hT
        rw [ho] at hT
        simp only [Bool.and_eq_true] at hT
        obtain ⟨⟨_, hT1⟩, hT2⟩ := hT
        have hpre : ∀ j, j < i → (j < k ∧ late.contains j = true) ∨ lis.getD j false = true := by
          intro j hj
          have := List.all_eq_true.1 hT1 j (List.mem_range.2 hj)
          simp only [Bool.or_eq_true, Bool.and_eq_true, decide_eq_true_eq] at this
          rcases this with h | h
          · exact .inl ⟨h.2, h.1⟩
          · rcases h with h | h
            · exact .inr (direct_listed hedge h)
            · exact .inr (reach_listed hcl 12 o hedge h)
        have hip : i = k + p := by
          have h1 : ¬ i < k + p := fun h => by rw [(hpl i (by omega) hisz).2 h] at hif; cases hif
          rcases Nat.lt_or_ge (k + p) i with h2 | h2
          · rcases hpre (k + p) h2 with h | h
            · omega
            · have := (hpl (k + p) (by omega) (by omega)).1 h
              omega
          · omega
        have hcons : ops.toList.drop (k + p) = o :: ops.toList.drop (k + (p + 1)) := by
          rw [← hip, show k + (p + 1) = i + 1 by omega]
          have hl : i < ops.toList.length := by simpa using hisz
          rw [List.drop_eq_getElem_cons hl]
          congr 1
          have := (Array.getElem?_eq_some_iff.1 ho).2
          simpa using this
        rw [hcons] at htl
        obtain ⟨t', h', n', hg, hop, hlate, hrest⟩ := htl
        have hok : OpOk P o (hide ops k lis t) h n (hide ops k lis t') h' n' := by
          rcases hop with ⟨rfl, hop⟩ | hop
          · have hall : ∀ d, hid ops k lis d = false := fun d => hid_false fun j hj _ => by
              rcases hpre j (by omega) with h | h
              · simp at h
              · exact h
            have e1 : ∀ t, hide ops k lis t = t := fun t => maskP_true fun d => by rw [hall d]; rfl
            rw [e1, e1]
            exact hop
          · refine hop _ (fun d hd => ?_) fun d hd => ?_
            · rw [hid_false]
              · rfl
              · intro j hj hdj
                have := List.all_eq_true.1 hT2 j (List.mem_range.2 hj)
                rw [hdj] at this
                simp only [Bool.and_eq_true, Bool.or_eq_true, Bool.not_eq_true'] at this
                rcases this.2 with h | h
                · simp [hd] at h
                · exact direct_listed hedge h
            · rw [hid_false]
              · rfl
              · intro j hj hdj
                have := List.all_eq_true.1 hT2 j (List.mem_range.2 hj)
                rw [hdj] at this
                simp only [Bool.and_eq_true, bne_iff_ne, ne_eq] at this
                exact absurd hd this.1
        unfold wpOp
        simp only [ho]
        rw [if_pos (wanted_none hg _)]
        refine .inl (hok base w0 hv σ a w g _ _ fun σ' a' w' g' => next a' w' ?_)
        refine ⟨p + 1, t', h', n', σ', fun _ => 1, fun _ => 0, by omega, ?_, ?_, fun _ _ _ _ _ _ _ => .inl (Nat.le_refl _), hrest, ?_⟩
        · intro j hj1 hj2
          rw [getD_set]
          by_cases hij : i = j
          · rw [if_pos ⟨hij, by omega⟩]
            simp; omega
          · rw [if_neg (fun h => hij h.1), hpl j hj1 hj2]
            omega
        · intro j o' hj ho' hlj
          rw [getD_set, if_neg (by omega)] at hlj
          have hlj' : late.contains j = true := by
            rcases hpre j (by omega) with h | h
            · exact h.2
            · rw [h] at hlj; cases hlj
          exact ⟨hlate j (by simpa using hlj') o' ho', Nat.le_refl _, g'.inv.pos, fun L (h1 : 1 ≤ L) (h2 : L < 1 + 0) => by omega, fun _ => hlj'⟩
        · have : hide ops k (lis.setIfInBounds i true) t' = hide ops k lis t' := by
            refine maskP_congr rfl fun d => ⟨?_, fun _ => rfl⟩
            have : hid ops k (lis.setIfInBounds i true) d = hid ops k lis d := by
              rw [Bool.eq_iff_iff, hid_spec, hid_spec]
              constructor
              · rintro ⟨j, h1, h2, h3⟩
                rw [getD_set, if_neg (by omega)] at h2
                exact ⟨j, h1, h2, h3⟩
              · rintro ⟨j, h1, h2, h3⟩
                refine ⟨j, h1, ?_, h3⟩
                rw [getD_set, if_neg (by omega)]
                exact h2
            rw [this]
          rw [this]
          exact g'

/-- A region that draws its order. -/
theorem Ok.drawn {id : Nat} {l : List Oper} {t h : List V} {n : Nat} (k m : Nat) (late : List Nat) (hm : P.follows .mixedOrders = true) (hB : drawnB l k m late = true) (hl : t.length = m)
    (hs : SOps P l.toArray (l.take k) t n fun t' n' => TOps P l.toArray late Q (l.drop k) t' h n') : Ok P (.region id l.toArray true) t h n Q := by
  intro base w0 hv σ a w g
  refine wp_region_any hm ?_
  simp only [drawnB, Bool.and_eq_true, decide_eq_true_eq] at hB
  obtain ⟨⟨⟨hB1, hB2⟩, hB3⟩, hB4⟩ := hB
  obtain ⟨tF, nF, htl, hn, hlF, hframe, r, c, hall, hdis⟩ := SOps.all _ _ _ _ hs hl hB1
  have hsz : l.toArray.size = l.length := by simp
  have htk : ∀ i o, i < k → l.toArray[i]? = some o → (l.take k)[i]? = some o := by
    intro i o hi ho
    rw [List.getElem?_take, if_pos hi]
    simpa using ho
  refine any_run (k := k) (late := late) (fun i hi => List.all_eq_true.1 hB3 i (List.mem_range.2 hi)) ?_ l.toArray.size (List.range l.toArray.size) _ a _ (by simp) List.nodup_range (by simp) ?_ (fun i hi => List.mem_range.1 hi) ?_ ?_
  · intro i h1 h2
    have := List.all_eq_true.1 hB4 i (List.mem_range.2 (by omega))
    simp only [Bool.or_eq_true, decide_eq_true_eq] at this
    rcases this with h | h
    · omega
    · exact h
  · intro i hi
    simp only [List.mem_range, hi, iff_true]
    rw [Array.getD_eq_getD_getElem?, Array.getElem?_replicate]
    split <;> rfl
  · intro i o ho hl
    rw [Array.getD_eq_getD_getElem?, Array.getElem?_replicate] at hl
    split at hl <;> cases hl
  · have hrep : ∀ i, (Array.replicate l.toArray.size false).getD i false = false := by
      intro i
      rw [Array.getD_eq_getD_getElem?, Array.getElem?_replicate]
      split <;> rfl
    have hlen : (l.take k).length = k := by rw [List.length_take]; omega
    refine ⟨0, tF, h, nF, σ, r, c, by omega, ?_, ?_, ?_, by simpa using htl, ?_⟩
    · intro i h1 h2
      rw [hrep i]
      simp; omega
    · intro i o hi ho _
      obtain ⟨h1, h2, h3⟩ := hall i o (htk i o hi ho)
      exact ⟨h1, by have := g.inv.pos; omega, h3, fun L hL _ => g.inv.fresh L (by omega), fun h => by omega⟩
    · intro i j hi hj hne _ _
      rcases Nat.lt_or_gt_of_ne hne with h | h
      · exact .inl (hdis i j h (by omega))
      · exact .inr (hdis j i h (by omega))
    · have hk0 : Keeps none base σ w σ { w with drawn := w.drawn + 1 } := ⟨fun _ h => ⟨h, rfl⟩, fun _ _ _ _ _ h => ⟨h, rfl⟩⟩
      refine ⟨?_, g.hs.keep hk0, g.dfr, ⟨g.bel.os, g.bel.tape, g.bel.output, g.bel.size, g.bel.block⟩, ⟨g.inv.bs, by have := g.inv.pos; omega, g.inv.zero, fun L hL => g.inv.fresh L (by omega), g.inv.own, g.inv.inj⟩⟩
      refine Ms.keep hk0 ?_
      have h1 := g.ts.1
      refine ⟨by unfold hide; rw [maskP_len]; omega, fun d x u hx hu => ?_⟩
      unfold hide at hx
      rw [maskP_get, Nat.zero_add] at hx
      obtain ⟨y, hy, rfl⟩ := Option.map_eq_some_iff.1 hx
      cases hhd : hid l.toArray k (Array.replicate l.toArray.size false) d with
      | true => exact .any _
      | false =>
        refine g.ts.2 d y u ?_ hu
        rw [← hframe d]
        · exact hy
        · intro o ho hd
          obtain ⟨j, hj⟩ := List.mem_iff_getElem?.1 ho
          have hjk : j < k := by have := (List.getElem?_eq_some_iff.1 hj).1; omega
          have : hid l.toArray k (Array.replicate l.toArray.size false) d = true := hid_spec.2 ⟨j, hjk, hrep j, by
            rw [List.getElem?_take, if_pos hjk] at hj
            simp [hj, hd]⟩
          rw [hhd] at this
          cases this
end
end Go.Proofs.Ytjhfabimacljhaa.K
