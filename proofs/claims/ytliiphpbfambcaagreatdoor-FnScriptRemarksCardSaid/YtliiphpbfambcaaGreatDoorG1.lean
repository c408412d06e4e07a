/- Regions that draw their order: the text's order serves every order. Nothing here depends on the program. -/
import Derived.Test.YtliiphpbfambcaaGreatDoorG0
import Derived.Orders
import Derived.ChangeOld
import Derived.SizedLaws
import Derived.OpenShut
import Derived.Test.YtliiphpbfambcaaGreatDoorRows
namespace Go.Proofs.YtliiphpbfambcaaGreatDoor.K
open Go Go.RowKit
set_option linter.unusedVariables false
set_option linter.unusedSimpArgs false

def maskP (f : Nat → Bool) : Nat → List V → List V
  | _, [] => []
  | i, x :: l => (if f i then x else .any) :: maskP f (i + 1) l
theorem maskP_get (f : Nat → Bool) (l : List V) : ∀ (i j : Nat), (maskP f i l)[j]? = (l[j]?).map fun x => if f (i + j) then x else .any := by
  induction l with
  | nil => intro i j; simp [maskP]
  | cons x l ih =>
    intro i j
    cases j with
    | zero => simp [maskP]
    | succ j => simp only [maskP, List.getElem?_cons_succ, ih]; rw [show i + 1 + j = i + (j + 1) by omega]
theorem maskP_len (f : Nat → Bool) (l : List V) : ∀ i, (maskP f i l).length = l.length := by
  induction l with
  | nil => intro i; rfl
  | cons x l ih => intro i; simp [maskP, ih]
theorem maskP_nth {f : Nat → Bool} {l : List V} {d : Nat} : nth (maskP f 0 l) d = if f d then nth l d else .any := by
  rw [nth_eq, nth_eq, List.getD_eq_getElem?_getD, List.getD_eq_getElem?_getD, maskP_get, Nat.zero_add]
  cases l[d]? with
  | none => simp
  | some x => simp
theorem maskP_congr {f g : Nat → Bool} {l l' : List V} (hl : l.length = l'.length) (h : ∀ (d : Nat), (f d = g d) ∧ (f d = true → l[d]? = l'[d]?)) : maskP f 0 l = maskP g 0 l' := by
  apply List.ext_getElem?
  intro d
  rw [maskP_get, maskP_get, Nat.zero_add, ← (h d).1]
  by_cases hf : f d = true
  · rw [(h d).2 hf]
  · have : f d = false := by simpa using hf
    rw [this]
    by_cases hd : d < l.length
    · rw [List.getElem?_eq_getElem hd, List.getElem?_eq_getElem (hl ▸ hd)]; rfl
    · rw [List.getElem?_eq_none (by omega), List.getElem?_eq_none (by omega)]
theorem maskP_true {f : Nat → Bool} {l : List V} (h : ∀ d, f d = true) : maskP f 0 l = l := by
  apply List.ext_getElem?
  intro d
  rw [maskP_get, Nat.zero_add, h d]
  cases l[d]? <;> simp
theorem maskP_put {f : Nat → Bool} {l : List V} {o : Option Tmp} {x : V} (h : ∀ d, o = some d → f d = true) : putV (maskP f 0 l) o x = maskP f 0 (putV l o x) := by
  cases o with
  | none => rfl
  | some d =>
    apply List.ext_getElem?
    intro j
    simp only [putV]
    rw [maskP_get, List.getElem?_set, List.getElem?_set, maskP_get, maskP_len, Nat.zero_add]
    by_cases hd : d = j
    · subst hd
      rw [if_pos rfl, if_pos rfl]
      split
      · simp [h d rfl]
      · rfl
    · rw [if_neg hd, if_neg hd]
def mask (ls : List Nat) (t : List V) : List V := maskP (fun d => ls.contains d) 0 t
theorem nth_of_get {t t' : List V} {d : Nat} (h : t[d]? = t'[d]?) : nth t d = nth t' d := by
  rw [nth_eq, nth_eq, List.getD_eq_getElem?_getD, List.getD_eq_getElem?_getD, h]
theorem nth_some {t : List V} {d : Nat} {x : V} (h : t[d]? = some x) : nth t d = x := by
  rw [nth_eq, List.getD_eq_getElem?_getD, h]; rfl

theorem undef_M {base : Base} {σ : Sig} {w : World} : M base σ w (.tup []) undef := .tup [] [] rfl (by simp)
theorem yielded_un {ops : Array Oper} {t : List V} {base : Base} {σ : Sig} {w : World} {a : Act} (ht : Ms base σ w t a.tmps.toList) {j d : Nat} (hd : (ops[j]?).bind (·.dst) = some d) (hb : nth t d = .tup []) : yielded ops a.tmps j = none := by
  unfold yielded
  rw [hd]
  show (match a.tmps[d]? with | some (.bool b) => some b | _ => none) = none
  rw [nth_eq] at hb
  have hi : d < t.length := by
    rcases Nat.lt_or_ge d t.length with h | h
    · exact h
    · rw [List.getD_eq_getElem?_getD, List.getElem?_eq_none h] at hb; cases hb
  have h1 : t[d]? = some t[d] := List.getElem?_eq_getElem hi
  have hl : d < a.tmps.toList.length := by have := ht.1; omega
  have h2 : a.tmps.toList[d]? = some a.tmps.toList[d] := List.getElem?_eq_getElem hl
  have hm := ht.2 d _ _ h1 h2
  have e1 : t.getD d .any = t[d] := by simp [List.getD_eq_getElem?_getD, h1]
  rw [← e1, hb] at hm
  have e2 : a.tmps[d]? = some a.tmps.toList[d] := by
    have : d < a.tmps.size := by simpa using hl
    simp [this]
  rw [e2]
  generalize a.tmps.toList[d] = v at hm
  cases hm
  rfl

def StepS (P : Program) (ops : Array Oper) (o : Oper) (t : List V) (r : Nat) (X : V) (c : Nat) : Prop :=
  (o.guard = none ∧ OpS P o (mask (o.looksAt ops) t) r X c) ∨
  (∃ j d want, o.guard = some (j, want) ∧ (ops[j]?).bind (·.dst) = some d ∧ ((nth t d = .bool want ∧ OpS P o (mask (o.looksAt ops) t) r X c) ∨ ((nth t d = .bool (!want) ∨ nth t d = .tup []) ∧ (X = .any ∨ X = .tup []) ∧ c = 0)))
def slot (t : List V) (o : Oper) : V := match o.dst with | some d => nth t d | none => .any

section
variable {P : Program} {ops : Array Oper} {o : Oper} {t t' : List V} {r c : Nat} {X : V}
theorem guard_looks {j d : Nat} {want : Bool} (hg : o.guard = some (j, want)) (hd : (ops[j]?).bind (·.dst) = some d) : d ∈ o.looksAt ops := by
  unfold Oper.looksAt
  refine List.mem_append_right _ ?_
  rw [hg]
  simp [hd]
theorem mask_congr (hl : t.length = t'.length) (h : ∀ d ∈ o.looksAt ops, t[d]? = t'[d]?) : mask (o.looksAt ops) t = mask (o.looksAt ops) t' := by
  refine maskP_congr hl fun d => ⟨rfl, fun hd => h d ?_⟩
  simpa using hd
theorem StepS.congr (hs : StepS P ops o t r X c) (hl : t.length = t'.length) (h : ∀ d ∈ o.looksAt ops, t[d]? = t'[d]?) : StepS P ops o t' r X c := by
  unfold StepS at *
  rw [← mask_congr hl h]
  rcases hs with hs | ⟨j, d, want, hg, hd, hs⟩
  · exact .inl hs
  · exact .inr ⟨j, d, want, hg, hd, by rw [← nth_of_get (h d (guard_looks hg hd))]; exact hs⟩

theorem mask_M {base : Base} {σ : Sig} {w : World} {a : Act} {t2 : List V} (ht : Ms base σ w t2 a.tmps.toList) (h : ∀ d ∈ o.looksAt ops, nth t2 d = nth t d) (y : Operand) : M base σ w (opnd (mask (o.looksAt ops) t) y) (a.eval y) := by
  cases y with
  | tmp d =>
    show M base σ w (nth (mask (o.looksAt ops) t) d) _
    unfold mask
    rw [maskP_nth]
    split
    · rename_i hd
      rw [← h d (by simpa using hd)]
      exact opnd_M ht (.tmp d)
    · exact .any _
  | const v => exact constV_M base σ w v
  | func f => exact .fn f [] [] rfl (by simp)
  | global g => exact .any _

theorem StepS.run {i : Nat} (hi : ops[i]? = some o) (hs : StepS P ops o t r X c) {base : Base} {w0 : World} {hv : List Value} {t2 h : List V} {N : Nat} {σ : Sig} {a : Act} {w : World} (g : Good base w0 hv t2 h N σ a w)
    (hag : ∀ d ∈ o.looksAt ops, nth t2 d = nth t d) (hr : 1 ≤ r) (hN : r + c ≤ N) (hf : ∀ L, r ≤ L → L < r + c → σ L = none) {K : Act → World → Prop} {Q : Exit → Act → World → Prop}
    (hK : ∀ σ' a' w', Good base w0 hv (putV t2 o.dst X) h N σ' a' w' → (∀ L, ¬(r ≤ L ∧ L < r + c) → σ' L = σ L) → K a' w') : wpOp P ops Q i K a w := by
  have go : OpS P o (mask (o.looksAt ops) t) r X c → o.wp P a w K Q := fun hs => by
    refine hs.run g hr hf (mask_M g.ts hag) K Q fun σ' a' w' g' hσ => ?_
    rw [show max N (r + c) = N by omega] at g'
    exact hK σ' a' w' g' hσ
  unfold wpOp
  simp only [hi]
  rcases hs with ⟨hg, hs⟩ | ⟨j, d, want, hg, hd, hs⟩
  · rw [if_pos (wanted_none hg _)]
    exact .inl (go hs)
  · have hw : ∀ b, yielded ops a.tmps j = b → Region.wanted o (yielded ops a.tmps) = (b == some want) := by
      intro b hb
      simp only [Region.wanted, hg, hb]
    rcases hs with ⟨hb, hs⟩ | ⟨hb, hX, rfl⟩
    · have hy := yielded_of (ops := ops) g.ts hd (by rw [hag d (guard_looks hg hd)]; exact hb)
      rw [hw _ hy, if_pos (by simp)]
      exact .inl (go hs)
    · have hn : Region.wanted o (yielded ops a.tmps) = false := by
        rcases hb with hb | hb
        · rw [hw _ (yielded_of (ops := ops) g.ts hd (by rw [hag d (guard_looks hg hd)]; exact hb))]
          cases want <;> rfl
        · rw [hw _ (yielded_un (ops := ops) g.ts hd (by rw [hag d (guard_looks hg hd)]; exact hb))]
          rfl
      rw [hn, if_neg (by simp)]
      refine hK σ _ w ⟨g.ts.put _ ?_, g.hs, by cases o.dst <;> exact g.dfr, g.bel, g.inv, g.gk⟩ fun _ _ => rfl
      rcases hX with rfl | rfl
      · exact .any _
      · exact undef_M
end

def SOps (P : Program) (ops : Array Oper) : List Oper → List V → Nat → (List V → Nat → Prop) → Prop
  | [], t, n, Q => Q t n
  | o :: l, t, n, Q => ∃ X c, StepS P ops o t n X c ∧ SOps P ops l (putV t o.dst X) (n + c) Q

def OpT (P : Program) (ops : Array Oper) (b : Oper) (t h : List V) (n : Nat) (t' h' : List V) (n' : Nat) : Prop :=
  ∀ f : Nat → Bool, (∀ d ∈ b.looksAt ops, f d = true) → (∀ d, b.dst = some d → f d = true) → OpOk P b (maskP f 0 t) h n (maskP f 0 t') h' n'
def TOps (P : Program) (ops : Array Oper) (late : List Nat) (Q : Exit → List V → List V → Nat → Prop) : List Oper → List V → List V → Nat → Prop
  | [], t, h, n => Q .normal t h n
  | b :: tl, t, h, n => ∃ t' h' n', b.guard = none ∧ ((late = [] ∧ OpOk P b t h n t' h' n') ∨ OpT P ops b t h n t' h' n') ∧
      (∀ i ∈ late, ∀ o, ops[i]? = some o → ∃ X, (o.dst = none ∨ slot t' o = X) ∧ StepS P ops o t' 1 X 0) ∧ TOps P ops late Q tl t' h' n'

def direct (o : Oper) (j : Nat) : Bool := o.after.any fun e => Region.binds .any e && e.on == j
def back (o : Oper) (i : Nat) : Bool := o.after.all fun e => !Region.binds .any e || decide (e.on < i)
def sepB (ops : Array Oper) (m : Nat) : List Oper → Bool
  | [] => true
  | o :: l => (match o.dst with | some d => !(o.looksAt ops).contains d && decide (d < m) | none => true) &&
      l.all (fun o' => match o'.dst with | some d => !(o.looksAt ops).contains d && o.dst != some d | none => true) && sepB ops m l
def headB (ops : Array Oper) (k : Nat) (i : Nat) : Bool :=
  match ops[i]? with
  | none => true
  | some o => back o i && (List.range k).all fun j => match (ops[j]?).bind (·.dst) with | none => true | some d => (j == i || o.dst != some d) && (!(o.looksAt ops).contains d || (direct o j && j != i))
def reachB (ops : Array Oper) : Nat → Oper → Nat → Bool
  | 0, o, j => direct o j
  | f + 1, o, j => direct o j || o.after.any fun e => Region.binds .any e && (match ops[e.on]? with | some o' => reachB ops f o' j | none => false)
def tailB (ops : Array Oper) (k : Nat) (late : List Nat) (i : Nat) : Bool :=
  match ops[i]? with
  | none => true
  | some o => back o i && ((List.range i).all fun j => (late.contains j && decide (j < k)) || (direct o j || reachB ops 12 o j)) && (List.range k).all fun j => match (ops[j]?).bind (·.dst) with | none => true | some d => o.dst != some d && (!(o.looksAt ops).contains d || direct o j)
def drawnB (l : List Oper) (k m : Nat) (late : List Nat) : Bool :=
  sepB l.toArray m (l.take k) && decide (k ≤ l.length) && (List.range k).all (headB l.toArray k) && (List.range l.length).all fun i => decide (i < k) || tailB l.toArray k late i

theorem SOps.all {P : Program} {ops : Array Oper} {m : Nat} : ∀ (l : List Oper) (t : List V) (n : Nat) (Q : List V → Nat → Prop), SOps P ops l t n Q → t.length = m → sepB ops m l = true →
    ∃ tF nF, Q tF nF ∧ n ≤ nF ∧ tF.length = m ∧ (∀ d, (∀ o ∈ l, o.dst ≠ some d) → tF[d]? = t[d]?) ∧
      ∃ r c : Nat → Nat, (∀ i o, l[i]? = some o → (∃ X, (o.dst = none ∨ slot tF o = X) ∧ StepS P ops o tF (r i) X (c i)) ∧ n ≤ r i ∧ r i + c i ≤ nF) ∧ (∀ i j, i < j → j < l.length → r i + c i ≤ r j)
  | [], t, n, Q, h, hm, _ => ⟨t, n, h, Nat.le_refl _, hm, fun _ _ => rfl, fun _ => n, fun _ => 0, by simp, by simp⟩
  | o :: l, t, n, Q, h, hm, hs => by
    obtain ⟨X, c0, hst, hrest⟩ := h
    simp only [sepB, Bool.and_eq_true] at hs
    obtain ⟨⟨hs1, hs2⟩, hs3⟩ := hs
    have hlen : (putV t o.dst X).length = m := by cases o.dst <;> simp [putV, hm]
    obtain ⟨tF, nF, hQ, hn, hl, hframe, r, c, hall, hdis⟩ := SOps.all l _ _ Q hrest hlen hs3
    have hl2 : ∀ o' ∈ l, ∀ d, o'.dst = some d → d ∉ o.looksAt ops ∧ o.dst ≠ some d := by
      intro o' ho' d hd
      have := List.all_eq_true.1 hs2 o' ho'
      rw [hd] at this
      simp only [Bool.and_eq_true, Bool.not_eq_true', bne_iff_ne, ne_eq] at this
      exact ⟨by simpa using this.1, this.2⟩
    have hput : ∀ d, o.dst ≠ some d → (putV t o.dst X)[d]? = t[d]? := by
      intro d hd
      cases hdst : o.dst with
      | none => rfl
      | some e =>
        simp only [putV]
        rw [List.getElem?_set_ne]
        rintro rfl
        exact hd hdst
    have hlook : ∀ d ∈ o.looksAt ops, t[d]? = tF[d]? := by
      intro d hd
      rw [hframe d (fun o' ho' he => (hl2 o' ho' d he).1 hd), hput d]
      intro he
      rw [he] at hs1
      simp only [Bool.and_eq_true, Bool.not_eq_true'] at hs1
      have := hs1.1
      simp [hd] at this
    have hX : o.dst = none ∨ slot tF o = X := by
      unfold slot
      cases hdst : o.dst with
      | none => exact .inl rfl
      | some d =>
        right
        rw [hdst] at hs1
        simp only [Bool.and_eq_true, decide_eq_true_eq] at hs1
        refine nth_some ?_
        rw [hframe d (fun o' ho' he => (hl2 o' ho' d he).2 hdst), hdst]
        simp only [putV]
        rw [List.getElem?_set, if_pos rfl, if_pos (by rw [hm]; exact hs1.2)]
    refine ⟨tF, nF, hQ, by omega, hl, fun d hd => ?_, fun i => match i with | 0 => n | i + 1 => r i, fun i => match i with | 0 => c0 | i + 1 => c i, ?_, ?_⟩
    · rw [hframe d fun o' ho' => hd o' (List.mem_cons_of_mem _ ho'), hput d (hd o (List.mem_cons_self ..))]
    · intro i o' ho'
      cases i with
      | zero =>
        obtain rfl : o = o' := by simpa using ho'
        exact ⟨⟨X, hX, hst.congr (by omega) hlook⟩, Nat.le_refl _, hn⟩
      | succ i =>
        obtain ⟨h1, h2, h3⟩ := hall i o' (by simpa using ho')
        exact ⟨h1, Nat.le_trans (Nat.le_add_right _ _) h2, h3⟩
    · intro i j hij hj
      cases j with
      | zero => omega
      | succ j =>
        simp only [List.length_cons] at hj
        cases i with
        | zero =>
          have := (hall j l[j] (List.getElem?_eq_getElem (by omega))).2.1
          exact this
        | succ i => exact hdis i j (by omega) (by omega)

section
variable {P : Program} {ops : Array Oper} {k m : Nat} {late : List Nat} {Q : Exit → List V → List V → Nat → Prop}
def hid (ops : Array Oper) (k : Nat) (lis : Array Bool) (d : Nat) : Bool := (List.range k).any fun j => !lis.getD j false && (ops[j]?).bind (·.dst) == some d
def hide (ops : Array Oper) (k : Nat) (lis : Array Bool) (t : List V) : List V := maskP (fun d => !hid ops k lis d) 0 t
theorem hid_spec {lis : Array Bool} {d : Nat} : hid ops k lis d = true ↔ ∃ j, j < k ∧ lis.getD j false = false ∧ (ops[j]?).bind (·.dst) = some d := by
  unfold hid
  rw [List.any_eq_true]
  constructor
  · rintro ⟨j, hj, h⟩
    simp only [Bool.and_eq_true, Bool.not_eq_true', beq_iff_eq] at h
    exact ⟨j, List.mem_range.1 hj, h.1, h.2⟩
  · rintro ⟨j, hj, h1, h2⟩
    exact ⟨j, List.mem_range.2 hj, by simp only [Bool.and_eq_true, Bool.not_eq_true', beq_iff_eq]; exact ⟨h1, h2⟩⟩
theorem hid_false {lis : Array Bool} {d : Nat} (h : ∀ j, j < k → (ops[j]?).bind (·.dst) = some d → lis.getD j false = true) : hid ops k lis d = false := by
  cases hh : hid ops k lis d with
  | false => rfl
  | true =>
    obtain ⟨j, h1, h2, h3⟩ := hid_spec.1 hh
    rw [h j h1 h3] at h2
    cases h2
theorem getD_set (lis : Array Bool) (i j : Nat) : (lis.setIfInBounds i true).getD j false = if i = j ∧ i < lis.size then true else lis.getD j false := by
  simp only [Array.getD_eq_getD_getElem?, Array.getElem?_setIfInBounds]
  by_cases h : i = j
  · subst h
    by_cases hl : i < lis.size
    · simp [hl]
    · simp [hl]
  · simp [h]

def J (P : Program) (ops : Array Oper) (k : Nat) (late : List Nat) (Q : Exit → List V → List V → Nat → Prop) (base : Base) (w0 : World) (hv : List Value) (lis : Array Bool) (a : Act) (w : World) : Prop :=
  ∃ p t h n σ, ∃ r c : Nat → Nat, k + p ≤ ops.size ∧ (∀ i, k ≤ i → i < ops.size → (lis.getD i false = true ↔ i < k + p)) ∧
    (∀ i o, i < k → ops[i]? = some o → lis.getD i false = false → (∃ X, (o.dst = none ∨ slot t o = X) ∧ StepS P ops o t (r i) X (c i)) ∧ 1 ≤ r i ∧ r i + c i ≤ n ∧ (∀ L, r i ≤ L → L < r i + c i → σ L = none) ∧ (0 < p → late.contains i = true)) ∧
    (∀ i j, i < k → j < k → i ≠ j → lis.getD i false = false → lis.getD j false = false → r i + c i ≤ r j ∨ r j + c j ≤ r i) ∧
    TOps P ops late Q (ops.toList.drop (k + p)) t h n ∧ Good base w0 hv (hide ops k lis t) h n σ a w

theorem direct_listed {o : Oper} {lis : Array Bool} {j : Nat} (h : ∀ e ∈ o.after, Region.binds .any e = true → lis.getD e.on false = true) (hd : direct o j = true) : lis.getD j false = true := by
  unfold direct at hd
  obtain ⟨e, he, hh⟩ := Array.any_eq_true'.1 hd
  simp only [Bool.and_eq_true, beq_iff_eq] at hh
  rw [← hh.2]
  exact h e he hh.1

def Closed (ops : Array Oper) (lis : Array Bool) : Prop := ∀ (i : Nat) (o : Oper), ops[i]? = some o → lis.getD i false = true → ∀ e ∈ o.after, Region.binds .any e = true → lis.getD e.on false = true
theorem reach_listed {ops : Array Oper} {lis : Array Bool} (hcl : Closed ops lis) {j : Nat} : ∀ (f : Nat) (o : Oper), (∀ e ∈ o.after, Region.binds .any e = true → lis.getD e.on false = true) → reachB ops f o j = true → lis.getD j false = true
  | 0, o, h, hr => direct_listed h hr
  | f + 1, o, h, hr => by
    simp only [reachB, Bool.or_eq_true] at hr
    rcases hr with hr | hr
    · exact direct_listed h hr
    · obtain ⟨e, he, hh⟩ := Array.any_eq_true'.1 hr
      simp only [Bool.and_eq_true] at hh
      obtain ⟨hb, hh⟩ := hh
      split at hh
      · rename_i o' ho'
        exact reach_listed hcl f o' (hcl _ _ ho' (h e he hb)) hh
      · cases hh
theorem any_run {base : Base} {w0 : World} {hv : List Value} (hh : ∀ i, i < k → headB ops k i = true) (ht : ∀ i, k ≤ i → i < ops.size → tailB ops k late i = true) :
    ∀ (fuel : Nat) (ul : List Nat) (lis : Array Bool) (a : Act) (w : World), ul.length = fuel → ul.Nodup → lis.size = ops.size → (∀ i, i < ops.size → (lis.getD i false = false ↔ i ∈ ul)) → (∀ i ∈ ul, i < ops.size) → Closed ops lis →
      J P ops k late Q base w0 hv lis a w → wpAny P .any ops (Post base w0 hv Q) fuel lis a w := by
  have hback : ∀ i o, ops[i]? = some o → back o i = true := by
    intro i o ho
    have hi : i < ops.size := (Array.getElem?_eq_some_iff.1 ho).1
    by_cases hik : i < k
    · have := hh i hik
      unfold headB at this
      rw [ho] at this
      simp only [Bool.and_eq_true] at this
      exact this.1
    · have := ht i (by omega) hi
      unfold tailB at this
      rw [ho] at this
      simp only [Bool.and_eq_true] at this
      exact this.1.1
  have hready : ∀ (lis : Array Bool), lis.size = ops.size → Region.ready .any ops lis = [] → ∀ i, i < ops.size → lis.getD i false = true := by
    intro lis hsz hr i
    induction i using Nat.strongRecOn with
    | ind i ih =>
      intro hi
      cases hli : lis.getD i false with
      | true => rfl
      | false =>
        exfalso
        have hmem : i ∈ Region.ready .any ops lis := by
          rw [mem_ready]
          refine ⟨?_, ops[i], by simp [hi], fun e he hb => ?_⟩
          · rw [Array.getD_eq_getD_getElem?, Array.getElem?_eq_getElem (by omega)] at hli ⊢
            exact hli
          · have := hback i ops[i] (by simp [hi])
            unfold back at this
            have := Array.all_eq_true_iff_forall_mem.1 this e he
            simp only [Bool.or_eq_true, Bool.not_eq_true', hb, Bool.true_eq_false, false_or, decide_eq_true_eq] at this
            exact ih e.on this (by omega)
        rw [hr] at hmem
        cases hmem
  intro fuel
  induction fuel with
  | zero =>
    intro ul lis a w hul hnd hsz hun hin hcl hJ
    obtain rfl : ul = [] := List.eq_nil_of_length_eq_zero hul
    have hall : ∀ i, i < ops.size → lis.getD i false = true := by
      intro i hi
      cases hli : lis.getD i false with
      | true => rfl
      | false => exact absurd ((hun i hi).1 hli) (by simp)
    refine ⟨?_, ?_⟩
    · cases hr : Region.ready .any ops lis with
      | nil => rfl
      | cons x xs =>
        have hx : x ∈ Region.ready .any ops lis := by rw [hr]; exact List.mem_cons_self ..
        rw [mem_ready] at hx
        obtain ⟨h1, o, ho, _⟩ := hx
        have hi : x < ops.size := (Array.getElem?_eq_some_iff.1 ho).1
        have := hall x hi
        rw [Array.getD_eq_getD_getElem?, Array.getElem?_eq_getElem (by omega)] at h1 this
        simp at h1 this
        rw [h1] at this
        cases this
    · obtain ⟨p, t, h, n, σ, r, c, hp, hpl, _, _, htl, g⟩ := hJ
      have hpe : k + p = ops.size := by
        rcases Nat.lt_or_ge (k + p) ops.size with hlt | hge
        · have := (hpl (k + p) (by omega) hlt).1 (hall _ hlt)
          omega
        · omega
      rw [hpe, List.drop_eq_nil_of_le (by simp)] at htl
      have hhide : hide ops k lis t = t := maskP_true fun d => by
        rw [hid_false fun j hj _ => hall j (by omega)]; rfl
      rw [hhide] at g
      exact ⟨t, h, n, σ, htl, g⟩
  | succ fuel ih =>
    intro ul lis a w hul hnd hsz hun hin hcl hJ
    refine ⟨fun hr => ?_, fun i hi => ?_⟩
    · exfalso
      cases ul with
      | nil => simp at hul
      | cons x xs =>
        have h1 := hin x (List.mem_cons_self ..)
        have h2 := hready lis hsz hr x h1
        have h3 := (hun x h1).2 (List.mem_cons_self ..)
        rw [h2] at h3
        cases h3
    · rw [mem_ready] at hi
      obtain ⟨hi0, o, ho, hedge⟩ := hi
      have hisz : i < ops.size := (Array.getElem?_eq_some_iff.1 ho).1
      have hif : lis.getD i false = false := by
        rw [Array.getD_eq_getD_getElem?, Array.getElem?_eq_getElem (by omega)] at hi0 ⊢
        exact hi0
      have hiu := (hun i hisz).1 hif
      have next : ∀ a' w', J P ops k late Q base w0 hv (lis.setIfInBounds i true) a' w' → wpAny P .any ops (Post base w0 hv Q) fuel (lis.setIfInBounds i true) a' w' := by
        intro a' w' hJ'
        refine ih (ul.erase i) _ a' w' (by rw [List.length_erase_of_mem hiu]; omega) (hnd.erase i) (by simp [hsz]) ?_ (fun j hj => hin j (List.mem_of_mem_erase hj)) ?_ hJ'
        · intro j hj
          rw [getD_set, hnd.mem_erase_iff, ← hun j hj]
          by_cases hij : i = j
          · subst hij
            simp [hsz, hisz]
          · rw [if_neg (fun h => hij h.1)]
            exact ⟨fun h => ⟨Ne.symm hij, h⟩, fun h => h.2⟩
        · intro j oj hoj hlj e he hb
          have up : ∀ m, lis.getD m false = true → (lis.setIfInBounds i true).getD m false = true := by
            intro m hm
            rw [getD_set]
            split
            · rfl
            · exact hm
          by_cases hij : i = j
          · subst hij
            rw [ho] at hoj
            obtain rfl := Option.some.inj hoj
            exact up _ (hedge e he hb)
          · rw [getD_set, if_neg (fun h => hij h.1)] at hlj
            exact up _ (hcl j oj hoj hlj e he hb)
      obtain ⟨p, t, h, n, σ, r, c, hp, hpl, hst, hdis, htl, g⟩ := hJ
      by_cases hik : i < k
      · -- one of the first
        have hH := hh i hik
        unfold headB at hH
        rw [ho] at hH
        simp only [Bool.and_eq_true] at hH
        have hsep : ∀ j, j < k → ∀ d, (ops[j]?).bind (·.dst) = some d → (j = i ∨ o.dst ≠ some d) ∧ (d ∈ o.looksAt ops → direct o j = true ∧ j ≠ i) := by
          intro j hj d hd
          have := List.all_eq_true.1 hH.2 j (List.mem_range.2 hj)
          rw [hd] at this
          simp only [Bool.and_eq_true, Bool.or_eq_true, beq_iff_eq, bne_iff_ne, ne_eq, Bool.not_eq_true'] at this
          refine ⟨this.1, fun hm => ?_⟩
          rcases this.2 with h | h
          · simp [hm] at h
          · exact h
        obtain ⟨⟨X, hX, hS⟩, hr1, hrn, hfree, hlate⟩ := hst i o hik ho hif
        refine hS.run ho g ?_ hr1 hrn hfree fun σ' a' w' g' hσ => next a' w' ?_
        · intro d hd
          unfold hide
          rw [maskP_nth, hid_false]
          · rfl
          · intro j hj hdj
            exact direct_listed hedge ((hsep j hj d hdj).2 hd).1
        · refine ⟨p, t, h, n, σ', r, c, hp, ?_, ?_, ?_, htl, ?_⟩
          · intro j hj1 hj2
            rw [getD_set, if_neg (by omega)]
            exact hpl j hj1 hj2
          · intro j o' hj ho' hlj
            rw [getD_set] at hlj
            split at hlj
            · cases hlj
            · rename_i hne
              have hne' : i ≠ j := fun e => hne ⟨e, by omega⟩
              obtain ⟨h1, h2, h3, h4, h5⟩ := hst j o' hj ho' hlj
              refine ⟨h1, h2, h3, fun L hL1 hL2 => ?_, h5⟩
              rw [hσ L]
              · exact h4 L hL1 hL2
              · have := hdis i j hik hj hne' hif hlj
                omega
          · intro j1 j2 hj1 hj2 hne hl1 hl2
            rw [getD_set] at hl1 hl2
            split at hl1
            · cases hl1
            · split at hl2
              · cases hl2
              · exact hdis j1 j2 hj1 hj2 hne hl1 hl2
          · have heq : putV (hide ops k lis t) o.dst X = hide ops k (lis.setIfInBounds i true) t := by
              have hoff : ∀ d, o.dst ≠ some d → hid ops k (lis.setIfInBounds i true) d = hid ops k lis d := by
                intro d hd
                rw [Bool.eq_iff_iff, hid_spec, hid_spec]
                constructor
                · rintro ⟨j, h1, h2, h3⟩
                  rw [getD_set] at h2
                  split at h2
                  · cases h2
                  · exact ⟨j, h1, h2, h3⟩
                · rintro ⟨j, h1, h2, h3⟩
                  refine ⟨j, h1, ?_, h3⟩
                  rw [getD_set, if_neg]
                  · exact h2
                  · rintro ⟨rfl, _⟩
                    rw [ho] at h3
                    exact hd h3
              cases hdst : o.dst with
              | none =>
                refine maskP_congr rfl fun d => ⟨?_, fun _ => rfl⟩
                rw [hoff d (by rw [hdst]; simp)]
              | some d0 =>
                have hX' : nth t d0 = X := by
                  rcases hX with hX | hX
                  · rw [hdst] at hX; cases hX
                  · unfold slot at hX; rw [hdst] at hX; exact hX
                apply List.ext_getElem?
                intro d
                simp only [putV]
                unfold hide
                rw [List.getElem?_set, maskP_get, maskP_get, maskP_len, Nat.zero_add]
                by_cases hd : d0 = d
                · subst hd
                  rw [if_pos rfl, hid_false]
                  · by_cases hdl : d0 < t.length
                    · rw [if_pos hdl, List.getElem?_eq_getElem hdl]
                      rw [nth_some (List.getElem?_eq_getElem hdl)] at hX'
                      simp [hX']
                    · rw [if_neg hdl, List.getElem?_eq_none (Nat.le_of_not_lt hdl)]; rfl
                  · intro j hj hdj
                    rw [getD_set]
                    have := (hsep j hj d0 hdj).1
                    rcases this with h | h
                    · rw [if_pos ⟨h.symm, by omega⟩]
                    · exact absurd hdst h
                · rw [if_neg hd, hoff d (by rw [hdst]; intro h; exact hd (Option.some.inj h))]
            rw [← heq]
            exact g'
      · -- one of the tail
        have hT := ht i (by omega) hisz
        unfold tailB at hT
        rw [ho] at hT
        simp only [Bool.and_eq_true] at hT
        obtain ⟨⟨_, hT1⟩, hT2⟩ := hT
        have hpre : ∀ j, j < i → (j < k ∧ late.contains j = true) ∨ lis.getD j false = true := by
          intro j hj
          have := List.all_eq_true.1 hT1 j (List.mem_range.2 hj)
          simp only [Bool.or_eq_true, Bool.and_eq_true, decide_eq_true_eq] at this
          rcases this with h | h
          · exact .inl ⟨h.2, h.1⟩
          · rcases h with h | h
            · exact .inr (direct_listed hedge h)
            · exact .inr (reach_listed hcl 12 o hedge h)
        have hip : i = k + p := by
          have h1 : ¬ i < k + p := fun h => by rw [(hpl i (by omega) hisz).2 h] at hif; cases hif
          rcases Nat.lt_or_ge (k + p) i with h2 | h2
          · rcases hpre (k + p) h2 with h | h
            · omega
            · have := (hpl (k + p) (by omega) (by omega)).1 h
              omega
          · omega
        have hcons : ops.toList.drop (k + p) = o :: ops.toList.drop (k + (p + 1)) := by
          rw [← hip, show k + (p + 1) = i + 1 by omega]
          have hl : i < ops.toList.length := by simpa using hisz
          rw [List.drop_eq_getElem_cons hl]
          congr 1
          have := (Array.getElem?_eq_some_iff.1 ho).2
          simpa using this
        rw [hcons] at htl
        obtain ⟨t', h', n', hg, hop, hlate, hrest⟩ := htl
        have hok : OpOk P o (hide ops k lis t) h n (hide ops k lis t') h' n' := by
          rcases hop with ⟨rfl, hop⟩ | hop
          · have hall : ∀ d, hid ops k lis d = false := fun d => hid_false fun j hj _ => by
              rcases hpre j (by omega) with h | h
              · simp at h
              · exact h
            have e1 : ∀ t, hide ops k lis t = t := fun t => maskP_true fun d => by rw [hall d]; rfl
            rw [e1, e1]
            exact hop
          · refine hop _ (fun d hd => ?_) fun d hd => ?_
            · rw [hid_false]
              · rfl
              · intro j hj hdj
                have := List.all_eq_true.1 hT2 j (List.mem_range.2 hj)
                rw [hdj] at this
                simp only [Bool.and_eq_true, Bool.or_eq_true, Bool.not_eq_true'] at this
                rcases this.2 with h | h
                · simp [hd] at h
                · exact direct_listed hedge h
            · rw [hid_false]
              · rfl
              · intro j hj hdj
                have := List.all_eq_true.1 hT2 j (List.mem_range.2 hj)
                rw [hdj] at this
                simp only [Bool.and_eq_true, bne_iff_ne, ne_eq] at this
                exact absurd hd this.1
        unfold wpOp
        simp only [ho]
        rw [if_pos (wanted_none hg _)]
        refine .inl (hok base w0 hv σ a w g _ _ fun σ' a' w' g' => next a' w' ?_)
        refine ⟨p + 1, t', h', n', σ', fun _ => 1, fun _ => 0, by omega, ?_, ?_, fun _ _ _ _ _ _ _ => .inl (Nat.le_refl _), hrest, ?_⟩
        · intro j hj1 hj2
          rw [getD_set]
          by_cases hij : i = j
          · rw [if_pos ⟨hij, by omega⟩]
            simp; omega
          · rw [if_neg (fun h => hij h.1), hpl j hj1 hj2]
            omega
        · intro j o' hj ho' hlj
          rw [getD_set, if_neg (by omega)] at hlj
          have hlj' : late.contains j = true := by
            rcases hpre j (by omega) with h | h
            · exact h.2
            · rw [h] at hlj; cases hlj
          exact ⟨hlate j (by simpa using hlj') o' ho', Nat.le_refl _, g'.inv.pos, fun L (h1 : 1 ≤ L) (h2 : L < 1 + 0) => by omega, fun _ => hlj'⟩
        · have : hide ops k (lis.setIfInBounds i true) t' = hide ops k lis t' := by
            refine maskP_congr rfl fun d => ⟨?_, fun _ => rfl⟩
            have : hid ops k (lis.setIfInBounds i true) d = hid ops k lis d := by
              rw [Bool.eq_iff_iff, hid_spec, hid_spec]
              constructor
              · rintro ⟨j, h1, h2, h3⟩
                rw [getD_set, if_neg (by omega)] at h2
                exact ⟨j, h1, h2, h3⟩
              · rintro ⟨j, h1, h2, h3⟩
                refine ⟨j, h1, ?_, h3⟩
                rw [getD_set, if_neg (by omega)]
                exact h2
            rw [this]
          rw [this]
          exact g'

theorem Ok.drawn {id : Nat} {l : List Oper} {t h : List V} {n : Nat} (k m : Nat) (late : List Nat) (hm : P.follows .mixedOrders = true) (hB : drawnB l k m late = true) (hl : t.length = m)
    (hs : SOps P l.toArray (l.take k) t n fun t' n' => TOps P l.toArray late Q (l.drop k) t' h n') : Ok P (.region id l.toArray true) t h n Q := by
  intro base w0 hv σ a w g
  refine wp_region_any hm ?_
  simp only [drawnB, Bool.and_eq_true, decide_eq_true_eq] at hB
  obtain ⟨⟨⟨hB1, hB2⟩, hB3⟩, hB4⟩ := hB
  obtain ⟨tF, nF, htl, hn, hlF, hframe, r, c, hall, hdis⟩ := SOps.all _ _ _ _ hs hl hB1
  have hsz : l.toArray.size = l.length := by simp
  have htk : ∀ i o, i < k → l.toArray[i]? = some o → (l.take k)[i]? = some o := by
    intro i o hi ho
    rw [List.getElem?_take, if_pos hi]
    simpa using ho
  refine any_run (k := k) (late := late) (fun i hi => List.all_eq_true.1 hB3 i (List.mem_range.2 hi)) ?_ l.toArray.size (List.range l.toArray.size) _ a _ (by simp) List.nodup_range (by simp) ?_ (fun i hi => List.mem_range.1 hi) ?_ ?_
  · intro i h1 h2
    have := List.all_eq_true.1 hB4 i (List.mem_range.2 (by omega))
    simp only [Bool.or_eq_true, decide_eq_true_eq] at this
    rcases this with h | h
    · omega
    · exact h
  · intro i hi
    simp only [List.mem_range, hi, iff_true]
    rw [Array.getD_eq_getD_getElem?, Array.getElem?_replicate]
    split <;> rfl
  · intro i o ho hl
    rw [Array.getD_eq_getD_getElem?, Array.getElem?_replicate] at hl
    split at hl <;> cases hl
  · have hrep : ∀ i, (Array.replicate l.toArray.size false).getD i false = false := by
      intro i
      rw [Array.getD_eq_getD_getElem?, Array.getElem?_replicate]
      split <;> rfl
    have hlen : (l.take k).length = k := by rw [List.length_take]; omega
    refine ⟨0, tF, h, nF, σ, r, c, by omega, ?_, ?_, ?_, by simpa using htl, ?_⟩
    · intro i h1 h2
      rw [hrep i]
      simp; omega
    · intro i o hi ho _
      obtain ⟨h1, h2, h3⟩ := hall i o (htk i o hi ho)
      exact ⟨h1, by have := g.inv.pos; omega, h3, fun L hL _ => g.inv.fresh L (by omega), fun h => by omega⟩
    · intro i j hi hj hne _ _
      rcases Nat.lt_or_gt_of_ne hne with h | h
      · exact .inl (hdis i j h (by omega))
      · exact .inr (hdis j i h (by omega))
    · have hk0 : Keeps none base σ w σ { w with drawn := w.drawn + 1 } := ⟨fun _ h => ⟨h, rfl⟩, fun _ _ _ _ _ h => ⟨h, rfl⟩⟩
      refine ⟨?_, g.hs.keep hk0, g.dfr, ⟨g.bel.os, g.bel.tape, g.bel.output, g.bel.size, g.bel.block⟩, ⟨g.inv.bs, by have := g.inv.pos; omega, g.inv.zero, fun L hL => g.inv.fresh L (by omega), g.inv.own, g.inv.inj⟩, g.gk⟩
      refine Ms.keep hk0 ?_
      have h1 := g.ts.1
      refine ⟨by unfold hide; rw [maskP_len]; omega, fun d x u hx hu => ?_⟩
      unfold hide at hx
      rw [maskP_get, Nat.zero_add] at hx
      obtain ⟨y, hy, rfl⟩ := Option.map_eq_some_iff.1 hx
      cases hhd : hid l.toArray k (Array.replicate l.toArray.size false) d with
      | true => exact .any _
      | false =>
        refine g.ts.2 d y u ?_ hu
        rw [← hframe d]
        · exact hy
        · intro o ho hd
          obtain ⟨j, hj⟩ := List.mem_iff_getElem?.1 ho
          have hjk : j < k := by have := (List.getElem?_eq_some_iff.1 hj).1; omega
          have : hid l.toArray k (Array.replicate l.toArray.size false) d = true := hid_spec.2 ⟨j, hjk, hrep j, by
            rw [List.getElem?_take, if_pos hjk] at hj
            simp [hj, hd]⟩
          rw [hhd] at this
          cases this
end
end Go.Proofs.YtliiphpbfambcaaGreatDoor.K

/- The rules as a walk uses them, and the evaluator's equations in one. Nothing here depends on the program. -/
namespace Go.Proofs.YtliiphpbfambcaaGreatDoor.K
open Go Go.RowKit
set_option linter.unusedVariables false
set_option linter.unusedSimpArgs false

section
variable {P : Program} {ti : Tab} {t t' h h' : List V} {n n' c : Nat} {Q : Exit → List V → List V → Nat → Prop} {ops : Array Oper} {o : Oper} {l : List Oper} {X : V}
theorem OkOps.ev (hti : TabOk P ti) (hg : o.guard = none) (he : ev1 ti t n o.type o.op = some (X, n')) (ht : putV t o.dst X = t') (hk : OkOps P ops l t' h n' Q) : OkOps P ops (o :: l) t h n Q :=
  OkOps.step hg (ht ▸ ev1_ok hti rfl he) hk
theorem OkOps.S (hg : o.guard = none) (hs : OpS P o t n X c) (ht : putV t o.dst X = t') (hk : OkOps P ops l t' h (n + c) Q) : OkOps P ops (o :: l) t h n Q :=
  OkOps.step hg (ht ▸ hs.ok) hk
theorem OkOps.store {T : TypeId} {i : TInfo} {p x : Operand} {L j : Nat} {e' : List V} (hti : TabOk P ti) (hg : o.guard = none) (ho : o.op = .store T p x) (hi : ti T = some i) (hs : storeV i (opnd t p) (opnd t x) = some (L, j, e')) (hfree : L ∉ V.labelsL e')
    (ht : putV (V.updL L j e' t) o.dst .any = t') (hh : V.updL L j e' h = h') (hk : OkOps P ops l t' h' n Q) : OkOps P ops (o :: l) t h n Q :=
  OkOps.step hg (ht ▸ hh ▸ ok_store (hti _ _ hi) ho hs hfree) hk
theorem OkOps.append {T e : TypeId} {i : TInfo} {s x : Operand} {L off : Nat} {es es2 es3 : List (List V)} {s1 b1 : Nat} {z1 : List V} (hti : TabOk P ti) (hg : o.guard = none) (ho : o.op = .call ⟨.builtin .append, #[s, x], #[T, T]⟩) (hT : ti T = some ⟨.slice e, s1, b1, z1⟩) (he : ti e = some i)
    (hi : 0 < i.size) (hz : i.zero.length = i.size) (hs : opnd t s = .sl L i.size off es) (hx : (∃ L2 off2, opnd t x = .sl L2 i.size off2 es2) ∨ (es2 = [] ∧ ∃ q, opnd t x = .nil q)) (hL : L ≠ 0) (hLn : L < n)
    (hb : (es.length + es2.length) * i.bytes ≤ 140737488355328) (hb2 : es.length + es2.length ≤ 9223372036854775807) (hone : ∀ e ∈ es2, ∀ y ∈ e, V.one y = true) (he3 : V.killLL L (es ++ es2) = es3) (ht : putV (V.killL L t) o.dst (.sl L i.size 0 es3) = t') (hh : V.killL L h = h')
    (hk : OkOps P ops l t' h' n Q) : OkOps P ops (o :: l) t h n Q :=
  OkOps.step hg (ht ▸ hh ▸ he3 ▸ ok_append hti hT he hi hz ho hs hx hL hLn hb hb2 hone) hk
theorem OkOps.on {j d : Nat} {want : Bool} (hg : o.guard = some (j, want)) (hd : (ops[j]?).bind (·.dst) = some d) (hb : nth t d = .bool want) (hk : OkOps P ops ({ o with guard := none } :: l) t h n Q) : OkOps P ops (o :: l) t h n Q := by
  intro base w0 hv σ a w g
  have hy := yielded_of (ops := ops) g.ts hd hb
  have hw : Region.wanted o (yielded ops a.tmps) = true := by simp [Region.wanted, hg, hy]
  have := hk base w0 hv σ a w g
  unfold wpList at this ⊢
  rw [if_pos (wanted_none rfl _)] at this
  rw [if_pos hw]
  exact this
theorem OkOps.off {j d : Nat} {want : Bool} (hg : o.guard = some (j, want)) (hd : (ops[j]?).bind (·.dst) = some d) (hb : nth t d = .bool (!want)) (ht : putV t o.dst .any = t') (hk : OkOps P ops l t' h n Q) : OkOps P ops (o :: l) t h n Q := by
  subst ht
  intro base w0 hv σ a w g
  have hy := yielded_of (ops := ops) g.ts hd hb
  have hw : Region.wanted o (yielded ops a.tmps) = false := by cases want <;> simp [Region.wanted, hg, hy]
  unfold wpList
  rw [hw]
  exact hk base w0 hv σ _ w ⟨g.ts.put _ (.any _), g.hs, by cases o.dst <;> exact g.dfr, g.bel, g.inv, g.gk⟩

theorem OkOps.offU {j d : Nat} {want : Bool} (hg : o.guard = some (j, want)) (hd : (ops[j]?).bind (·.dst) = some d) (hb : nth t d = .bool (!want) ∨ nth t d = .tup []) (ht : putV t o.dst (.tup []) = t') (hk : OkOps P ops l t' h n Q) : OkOps P ops (o :: l) t h n Q := by
  subst ht
  intro base w0 hv σ a w g
  have hw : Region.wanted o (yielded ops a.tmps) = false := by
    rcases hb with hb | hb
    · have hy := yielded_of (ops := ops) g.ts hd hb
      cases want <;> simp [Region.wanted, hg, hy]
    · have hy := yielded_un (ops := ops) g.ts hd hb
      cases want <;> simp [Region.wanted, hg, hy]
  unfold wpList
  rw [hw]
  exact hk base w0 hv σ _ w ⟨g.ts.put _ undef_M, g.hs, by cases o.dst <;> exact g.dfr, g.bel, g.inv, g.gk⟩

theorem opnd_congr {x : Operand} (h : ∀ d, x = .tmp d → nth t d = nth t' d) : opnd t x = opnd t' x := by
  cases x with
  | tmp d => exact h d rfl
  | _ => rfl
theorem opnd_mask {x : Operand} (hx : x ∈ o.op.operands.toList) : opnd (mask (o.looksAt ops) t) x = opnd t x := by
  refine opnd_congr fun d hd => ?_
  unfold mask
  rw [maskP_nth, if_pos]
  have : d ∈ o.looksAt ops := List.mem_append_left _ (List.mem_filterMap.2 ⟨x, hx, by rw [hd]⟩)
  simpa using this
theorem ev1_congr (op : Op) (ty : TypeId) (h : ∀ x ∈ op.operands.toList, opnd t x = opnd t' x) : ev1 ti t n ty op = ev1 ti t' n ty op := by
  have pairs : ∀ ps : Array (Nat × Operand), (∀ x ∈ ps.toList.map (·.2), opnd t x = opnd t' x) → (ps.toList.map fun p => (p.1, opnd t p.2)) = (ps.toList.map fun p => (p.1, opnd t' p.2)) := fun ps hp =>
    List.map_congr_left fun p hm => by rw [hp p.2 (List.mem_map.2 ⟨p, hm, rfl⟩)]
  cases op <;> simp only [Op.operands] at h <;> simp only [ev1]
  case build T ps => rw [pairs ps fun x hx => h x (by simpa using hx)]
  case buildSlice T k ps => rw [pairs ps fun x hx => h x (by simpa using hx)]
  case makeFunc fn first caps =>
    cases fn <;> simp only
    rw [List.map_congr_left fun x hx => h x (by simp; exact .inr (by simpa using hx))]
  case call c =>
    obtain ⟨callee, args, tys⟩ := c
    cases callee <;> simp only [bltV]
    have hl : ∀ x ∈ args.toList, opnd t x = opnd t' x := fun x hx => h x (by simp [Call.operands]; simpa using hx)
    rename_i b
    congr 1
    split
    · rename_i x T h1 h2
      rw [hl x (by rw [h1]; simp)]
    · rename_i x y h1
      rw [hl x (by rw [h1]; simp), hl y (by rw [h1]; simp)]
    · rename_i x y h1
      rw [hl x (by rw [h1]; simp), hl y (by rw [h1]; simp)]
    · rfl
  case slice T x lo hi mx =>
    cases mx <;> cases lo <;> cases hi <;> simp_all
  all_goals first | rfl | (simp_all; done)

theorem SOps.S {Q : List V → Nat → Prop} (hg : o.guard = none) (hs : OpS P o (mask (o.looksAt ops) t) n X c) (ht : putV t o.dst X = t') (hk : SOps P ops l t' (n + c) Q) : SOps P ops (o :: l) t n Q :=
  ⟨X, c, .inl ⟨hg, hs⟩, by rw [ht]; exact hk⟩
theorem SOps.ev {Q : List V → Nat → Prop} (hti : TabOk P ti) (hg : o.guard = none) (he : ev1 ti t n o.type o.op = some (X, n')) (ht : putV t o.dst X = t') (hk : SOps P ops l t' n' Q) : SOps P ops (o :: l) t n Q := by
  rw [ev1_congr (t' := mask (o.looksAt ops) t) o.op o.type fun x hx => (opnd_mask hx).symm] at he
  obtain ⟨c, rfl, hs⟩ := ev1_S hti rfl he
  exact SOps.S hg hs ht hk
theorem SOps.onEv {Q : List V → Nat → Prop} {j d : Nat} {want : Bool} (hti : TabOk P ti) (hg : o.guard = some (j, want)) (hd : (ops[j]?).bind (·.dst) = some d) (hb : nth t d = .bool want) (he : ev1 ti t n o.type o.op = some (X, n')) (ht : putV t o.dst X = t') (hk : SOps P ops l t' n' Q) : SOps P ops (o :: l) t n Q := by
  rw [ev1_congr (t' := mask (o.looksAt ops) t) o.op o.type fun x hx => (opnd_mask hx).symm] at he
  obtain ⟨c, rfl, hs⟩ := ev1_S hti rfl he
  exact ⟨X, c, .inr ⟨j, d, want, hg, hd, .inl ⟨hb, hs⟩⟩, by rw [ht]; exact hk⟩
theorem SOps.onS {Q : List V → Nat → Prop} {j d : Nat} {want : Bool} (hg : o.guard = some (j, want)) (hd : (ops[j]?).bind (·.dst) = some d) (hb : nth t d = .bool want) (hs : OpS P o (mask (o.looksAt ops) t) n X c) (ht : putV t o.dst X = t') (hk : SOps P ops l t' (n + c) Q) : SOps P ops (o :: l) t n Q :=
  ⟨X, c, .inr ⟨j, d, want, hg, hd, .inl ⟨hb, hs⟩⟩, by rw [ht]; exact hk⟩
theorem SOps.off {Q : List V → Nat → Prop} {j d : Nat} {want : Bool} (hg : o.guard = some (j, want)) (hd : (ops[j]?).bind (·.dst) = some d) (hb : nth t d = .bool (!want)) (ht : putV t o.dst .any = t') (hk : SOps P ops l t' n Q) : SOps P ops (o :: l) t n Q :=
  ⟨.any, 0, .inr ⟨j, d, want, hg, hd, .inr ⟨.inl hb, .inl rfl, rfl⟩⟩, by rw [ht]; exact hk⟩
theorem SOps.offU {Q : List V → Nat → Prop} {j d : Nat} {want : Bool} (hg : o.guard = some (j, want)) (hd : (ops[j]?).bind (·.dst) = some d) (hb : nth t d = .bool (!want) ∨ nth t d = .tup []) (ht : putV t o.dst (.tup []) = t') (hk : SOps P ops l t' n Q) : SOps P ops (o :: l) t n Q :=
  ⟨.tup [], 0, .inr ⟨j, d, want, hg, hd, .inr ⟨hb, .inr rfl, rfl⟩⟩, by rw [ht]; exact hk⟩
theorem SOps.nil {Q : List V → Nat → Prop} (h : Q t n) : SOps P ops [] t n Q := h

theorem OpS.weak' {fx : Operand} {args : Array Operand} {ts : Array TypeId} {f : FuncId} {caps ags : List V} {x : V} {r : Nat} (ho : o.op = .call ⟨.value fx, args, ts⟩) (hf : opnd t fx = .fn f caps) (ha : args.toList.map (opnd t) ++ caps = ags) (hcl : Callable P f) (hp : Weak P f ags x) : OpS P o t r x 0 :=
  OpS.weak ho hf hcl (ha ▸ hp)
theorem callMask {fx : Operand} {args : Array Operand} {ts : Array TypeId} (ho : o.op = .call ⟨.value fx, args, ts⟩) : opnd (mask (o.looksAt ops) t) fx = opnd t fx ∧ args.toList.map (opnd (mask (o.looksAt ops) t)) = args.toList.map (opnd t) := by
  refine ⟨opnd_mask ?_, List.map_congr_left fun x hx => opnd_mask ?_⟩
  · rw [ho]; simp [Op.operands, Call.operands]
  · rw [ho]; simp [Op.operands, Call.operands]; exact .inr (by simpa using hx)
theorem OpS.weakM {fx : Operand} {args : Array Operand} {ts : Array TypeId} {f : FuncId} {caps ags : List V} {x : V} {r : Nat} (ho : o.op = .call ⟨.value fx, args, ts⟩) (hf : opnd t fx = .fn f caps) (ha : args.toList.map (opnd t) ++ caps = ags) (hcl : Callable P f) (hp : Weak P f ags x) : OpS P o (mask (o.looksAt ops) t) r x 0 :=
  OpS.weak ho ((callMask ho).1.trans hf) hcl (by rw [(callMask ho).2]; exact ha ▸ hp)
theorem TOps.nil {late : List Nat} (h1 : Q .normal t h n) : TOps P ops late Q [] t h n := h1
theorem TOps.ok (h' : List V) (hg : o.guard = none) (hop : OpOk P o t h n t' h' n') (hk : TOps P ops [] Q l t' h' n') : TOps P ops [] Q (o :: l) t h n :=
  ⟨t', h', n', hg, .inl ⟨rfl, hop⟩, by simp, hk⟩
theorem TOps.ev (hti : TabOk P ti) (hg : o.guard = none) (he : ev1 ti t n o.type o.op = some (X, n')) (ht : putV t o.dst X = t') (hk : TOps P ops [] Q l t' h n') : TOps P ops [] Q (o :: l) t h n :=
  TOps.ok h hg (ht ▸ ev1_ok hti rfl he) hk
theorem TOps.store {T : TypeId} {i : TInfo} {p x : Operand} {L j : Nat} {e' : List V} (hti : TabOk P ti) (hg : o.guard = none) (ho : o.op = .store T p x) (hi : ti T = some i) (hs : storeV i (opnd t p) (opnd t x) = some (L, j, e')) (hfree : L ∉ V.labelsL e')
    (ht : putV (V.updL L j e' t) o.dst .any = t') (hh : V.updL L j e' h = h') (hk : TOps P ops [] Q l t' h' n) : TOps P ops [] Q (o :: l) t h n :=
  TOps.ok h' hg (ht ▸ hh ▸ ok_store (hti _ _ hi) ho hs hfree) hk
end
end Go.Proofs.YtliiphpbfambcaaGreatDoor.K

/- The evaluator's equations, in one, for 'simp only'. Nothing here depends on the program. -/
namespace Go.Proofs.YtliiphpbfambcaaGreatDoor.K
open Go Go.RowKit
set_option linter.unusedVariables false
set_option linter.unusedSimpArgs false

def pickV (c a b : V) (n : Nat) : Option (V × Nat) := match c with | .bool true => some (a, n) | .bool false => some (b, n) | _ => none
def allocV (i : Option TInfo) (n : Nat) : Option (V × Nat) := match i with | some i => if i.zero.length = i.size ∧ i.zero ≠ [] then some (.ptr n 0 0 i.zero, n + 1) else none | none => none
def boxV (x : V) (n : Nat) : Option (V × Nat) := if x.known then some (.ptr n 0 0 (cellsV x), n + 1) else none
def loadV' (i : Option TInfo) (x : V) (n : Nat) : Option (V × Nat) := match i with | some i => (loadV i x).map fun x => (x, n) | none => none
def loadC (e : List V) (o n : Nat) : Option (V × Nat) := (e[o]?).map fun x => (x, n)
def partV' (i : TInfo) (e : List V) (o n : Nat) : Option (V × Nat) := (partV i e o).map fun x => (x, n)
def nilCheckV (x : V) (n : Nat) : Option (V × Nat) := match x with | .ptr L i o e => some (.ptr L i o e, n) | .fn f cs => some (.fn f cs, n) | _ => none
def binV' (ti : Tab) (op : BinOp) (T : TypeId) (x y : V) (n : Nat) : Option (V × Nat) := (binV ti op T x y).map fun z => (z, n)
def boolV (i : Option TInfo) (x : Bool) (n : Nat) : Option (V × Nat) := (i.bind fun i => match i.kind with | .bool => some (V.bool x) | _ => none).map fun z => (z, n)
def unV' (op : UnOp) (x : V) (n : Nat) : Option (V × Nat) := (unV op x).map fun z => (z, n)
def fieldOf' (i : Option TInfo) (f : Nat) : Option (Nat × TypeId) := match i with | some ⟨.struct fs, _, _, _⟩ => fs[f]? | _ => none
def nthF (l : List (Nat × TypeId)) (i : Nat) : Option (Nat × TypeId) := l[i]?
def fieldAddrV (ti : Tab) (x : V) (f : Option (Nat × TypeId)) (n : Nat) : Option (V × Nat) := match x, f with
  | .ptr L i o e, some (off, fty) => match ti fty with | some inf => if inf.size = 0 then none else some (.ptr L i (o + off) e, n) | none => none
  | _, _ => none
def fieldAddrV' (inf : Option TInfo) (L i o : Nat) (e : List V) (n : Nat) : Option (V × Nat) := match inf with | some inf => if inf.size = 0 then none else some (.ptr L i o e, n) | none => none
def fieldV (ti : Tab) (x : V) (f : Option (Nat × TypeId)) (n : Nat) : Option (V × Nat) := match x, f with
  | .agg cs, some (off, fty) => match ti fty with | some inf => (partV inf cs off).map fun z => (z, n) | none => none
  | _, _ => none
def fieldV' (inf : Option TInfo) (cs : List V) (off n : Nat) : Option (V × Nat) := match inf with | some inf => (partV inf cs off).map fun z => (z, n) | none => none
def extractV (x : V) (i n : Nat) : Option (V × Nat) := match x with | .tup vs => (vs[i]?).map fun z => (z, n) | _ => none
def lenV' (ti : Tab) (T : TypeId) (x : V) (n : Nat) : Option (V × Nat) := (if lenFits ti T x then lenV x else none).map fun z => (z, n)
def lenS (i : Option TInfo) (s : List UInt8) (n : Nat) : Option (V × Nat) := match i with | some ⟨.str, _, _, _⟩ => some (.int .i64 (s.length : Int), n) | _ => none
def lenL (i : Option TInfo) (m n : Nat) : Option (V × Nat) := match i with | some ⟨.slice _, _, _, _⟩ => some (.int .i64 (m : Int), n) | _ => none
def esz' (ti : Tab) (i : Option TInfo) : Option Nat := match i with | some ⟨.slice e, _, _, _⟩ => (ti e).map (·.size) | _ => none
def allocR (b : Bool) (z : List V) (n : Nat) : Option (V × Nat) := if b = true ∧ z ≠ [] then some (.ptr n 0 0 z, n + 1) else none
def lenIs (l : List V) (n : Nat) : Bool := decide (l.length = n)
def dropC (l : List V) (n : Nat) : List V := l.drop n
def takeC (l : List V) (n : Nat) : Option (List V) := if n ≤ l.length then some (l.take n) else none
def consO (x : V) (l : Option (List V)) : Option (List V) := l.map (x :: ·)
def aggR (l : Option (List V)) (n : Nat) : Option (V × Nat) := l.map fun l => (.agg l, n)
def aggR1 (l : Option (List V)) : Option V := l.map .agg
def setO : List V → Nat → V → Option (List V)
  | [], _, _ => none
  | _ :: e, 0, x => some (x :: e)
  | y :: e, o + 1, x => consO y (setO e o x)
def oneO (x : V) (y : Option (List V)) : Option (List V) := if x.one then y else none
def setsO : List V → Nat → List V → Nat → Option (List V)
  | e, _, [], 0 => some e
  | e, o, x :: cs, s + 1 => match oneO x (setO e o x) with | some e1 => setsO e1 (o + 1) cs s | none => none
  | _, _, _, _ => none
def bindS (e : Option (List V)) (o : Nat) (cs : List V) (s : Nat) : Option (List V) := match e with | some e1 => setsO e1 o cs s | none => none
def storeR (e : Option (List V)) (L j : Nat) : Option (Nat × Nat × List V) := e.map fun e => (L, j, e)
def storeE (i : Option TInfo) (p x : V) : Option (Nat × Nat × List V) := match i, p with | some i, .ptr (L + 1) j o e => storeR (setsO e o (cellsV x) i.size) (L + 1) j | _, _ => none
theorem setO_ok : ∀ {e : List V} {o : Nat} {x : V} {e' : List V}, setO e o x = some e' → o < e.length ∧ e' = e.set o x
  | [], _, _, _, h => by simp [setO] at h
  | y :: e, 0, x, e', h => by obtain rfl := Option.some.inj h; simp
  | y :: e, o + 1, x, e', h => by
    simp only [setO, consO] at h
    obtain ⟨e1, h1, rfl⟩ := Option.map_eq_some_iff.1 h
    obtain ⟨h2, rfl⟩ := setO_ok h1
    exact ⟨by simp; omega, by simp⟩
theorem setsO_ok : ∀ {e : List V} {o : Nat} {cs : List V} {s : Nat} {e' : List V}, setsO e o cs s = some e' → cs.length = s ∧ (∀ x ∈ cs, x.one = true) ∧ (cs = [] ∨ o + cs.length ≤ e.length) ∧ e' = setAt e o cs
  | e, o, [], 0, e', h => by obtain rfl := Option.some.inj (by simpa [setsO] using h); exact ⟨rfl, by simp, .inl rfl, rfl⟩
  | e, o, [], s + 1, e', h => by simp [setsO] at h
  | e, o, x :: cs, 0, e', h => by simp [setsO] at h
  | e, o, x :: cs, s + 1, e', h => by
    simp only [setsO] at h
    split at h
    · rename_i e1 h1
      unfold oneO at h1
      split at h1
      · rename_i hx
        obtain ⟨h2, rfl⟩ := setO_ok h1
        obtain ⟨h3, h4, h5, h6⟩ := setsO_ok h
        refine ⟨by simp [h3], fun y hy => ?_, .inr ?_, h6⟩
        · rcases List.mem_cons.1 hy with rfl | hy
          · exact hx
          · exact h4 y hy
        · rcases h5 with rfl | h5
          · simp; omega
          · simp at h5 ⊢; omega
      · cases h1
    · cases h
theorem known_cells {x : V} (hk : (cellsV x) ≠ []) (h : ∀ y ∈ cellsV x, y.one = true) : x.known = true := by
  cases x <;> first | rfl | (have := h .any (by simp [cellsV]); cases this)
theorem storeE_ok {i : Option TInfo} {p x : V} {L j : Nat} {e' : List V} (h : storeE i p x = some (L, j, e')) (hc : ∃ y l, cellsV x = y :: l) : ∃ i', i = some i' ∧ storeV i' p x = some (L, j, e') := by
  unfold storeE at h
  split at h
  · rename_i i' L0 j0 o e
    unfold storeR at h
    obtain ⟨e1, h1, h2⟩ := Option.map_eq_some_iff.1 h
    simp only [Prod.mk.injEq] at h2
    obtain ⟨rfl, rfl, rfl⟩ := h2
    obtain ⟨h3, h4, h5, h6⟩ := setsO_ok h1
    obtain ⟨y, l, hc⟩ := hc
    have hne : cellsV x ≠ [] := by rw [hc]; simp
    refine ⟨i', rfl, ?_⟩
    unfold storeV
    simp only
    rw [if_pos, h6]
    simp only [Bool.and_eq_true, beq_iff_eq, decide_eq_true_eq, bne_iff_ne, ne_eq, List.all_eq_true]
    exact ⟨⟨⟨⟨known_cells hne h4, h3⟩, h4⟩, h5.resolve_left hne⟩, by omega⟩
  · cases h
theorem partA (o : Nat) (e : List V) (fs : List (Nat × TypeId)) (s b : Nat) (z : List V) (n : Nat) : (partV ⟨.struct fs, s + 1, b, z⟩ e o).map (fun x => (x, n)) = aggR (takeC (dropC e o) (s + 1)) n := by
  unfold partV aggR takeC dropC
  simp only [Kind.isAgg, if_true, List.length_drop]
  by_cases h : o + (s + 1) ≤ e.length
  · rw [if_pos h, if_pos (by omega)]; rfl
  · rw [if_neg h, if_neg (by omega)]; rfl
theorem partB (o : Nat) (e : List V) (fs : List (Nat × TypeId)) (s b : Nat) (z : List V) : partV ⟨.struct fs, s + 1, b, z⟩ e o = aggR1 (takeC (dropC e o) (s + 1)) := by
  unfold partV aggR1 takeC dropC
  simp only [Kind.isAgg, if_true, List.length_drop]
  by_cases h : o + (s + 1) ≤ e.length
  · rw [if_pos h, if_pos (by omega)]; rfl
  · rw [if_neg h, if_neg (by omega)]; rfl
def resCons (a : Option V) (b : Option (List V)) : Option (List V) := match a, b with | some x, some xs => some (x :: xs) | _, _ => none
def resCell (i : Option TInfo) (x : V) : Option V := match i with | some i => loadV i x | none => none
def resPart (i : TInfo) (e : List V) (o : Nat) : Option V := partV i e o
def getC (e : List V) (i : Nat) : Option V := e[i]?
def setN (t : List V) (d : Nat) (x : V) : List V := t.set d x

theorem kev1_0 : ∀ (ti : Tab) (t : List V) (n : Nat) (ty : TypeId) (x : Operand), ev1 ti t n ty (.move x) = some (retype ti ty (opnd t x), n) := by intros; rfl
theorem kev1_1 : ∀ (ti : Tab) (t : List V) (n : Nat) (ty : TypeId) (x : Operand), ev1 ti t n ty (.assign x) = some (retype ti ty (opnd t x), n) := by intros; rfl
theorem kev1_2 : ∀ (ti : Tab) (t : List V) (n : Nat) (ty : TypeId) (c a b : Operand), ev1 ti t n ty (.pick c a b) = pickV (opnd t c) (opnd t a) (opnd t b) n := by intros; rfl
theorem kev1_3 : ∀ (ti : Tab) (t : List V) (n : Nat) (ty T : TypeId), ev1 ti t n ty (.alloc T) = allocV (ti T) n := by intros; rfl
theorem kev1_4 : ∀ (ti : Tab) (t : List V) (n : Nat) (ty T : TypeId) (x : Operand), ev1 ti t n ty (.box T x) = boxV (opnd t x) n := by intros; rfl
theorem kev1_5 : ∀ (ti : Tab) (t : List V) (n : Nat) (ty T : TypeId) (x : Operand), ev1 ti t n ty (.load T x) = loadV' (ti T) (opnd t x) n := by intros; rfl
theorem kev1_6 : ∀ (ti : Tab) (t : List V) (n : Nat) (ty : TypeId) (x : Operand), ev1 ti t n ty (.nilCheck x) = nilCheckV (opnd t x) n := by intros; rfl
theorem kev1_7 : ∀ (ti : Tab) (t : List V) (n : Nat) (ty : TypeId) (op : BinOp) (T T' : TypeId) (x y : Operand), ev1 ti t n ty (.binOp op T x y T') = binV' ti op T (opnd t x) (opnd t y) n := by intros; rfl
theorem kev1_8 : ∀ (ti : Tab) (t : List V) (n : Nat) (ty : TypeId) (op : UnOp) (T : TypeId) (x : Operand), ev1 ti t n ty (.unOp op T x) = unV' op (opnd t x) n := by intros; rfl
theorem kev1_9 : ∀ (ti : Tab) (t : List V) (n : Nat) (ty s d : TypeId) (x : Operand), ev1 ti t n ty (.convert s d x) = (convV ti s d (opnd t x)).map fun z => (z, n) := by intros; rfl
theorem kev1_10 : ∀ (ti : Tab) (t : List V) (n : Nat) (ty T : TypeId) (x : Operand) (f : Nat), ev1 ti t n ty (.fieldAddr T x f) = fieldAddrV ti (opnd t x) (fieldOf ti T f) n := by intros; rfl
theorem kev1_11 : ∀ (ti : Tab) (t : List V) (n : Nat) (ty T : TypeId) (x : Operand) (f : Nat), ev1 ti t n ty (.field T x f) = fieldV ti (opnd t x) (fieldOf ti T f) n := by intros; rfl
theorem kev2_0 : ∀ (ti : Tab) (t : List V) (n : Nat) (ty T : TypeId) (x i : Operand), ev1 ti t n ty (.indexAddr T x i) = (idxV ti T (opnd t x) (opnd t i)).map fun z => (z, n) := by intros; rfl
theorem kev2_1 : ∀ (ti : Tab) (t : List V) (n : Nat) (ty T : TypeId) (x i : Operand), ev1 ti t n ty (.index T x i) = (byteV ti T (opnd t x) (opnd t i)).map fun z => (z, n) := by intros; rfl
theorem kev2_2 : ∀ (ti : Tab) (t : List V) (n : Nat) (ty T : TypeId) (x : Operand) (lo hi : Option Operand), ev1 ti t n ty (.slice T x lo hi none) = (sliceV ti T (opnd t x) (lo.map (opnd t)) (hi.map (opnd t))).map fun z => (z, n) := by intros; rfl
theorem kev2_3 : ∀ (ti : Tab) (t : List V) (n : Nat) (ty : TypeId) (x : Operand) (i : Nat), ev1 ti t n ty (.extract x i) = extractV (opnd t x) i n := by intros; rfl
theorem kev2_4 : ∀ (ti : Tab) (t : List V) (n : Nat) (ty T : TypeId) (x : Operand), ev1 ti t n ty (.call ⟨.builtin .len, #[x], #[T]⟩) = lenV' ti T (opnd t x) n := by intros; rfl
theorem kev2_5 : ∀ (ti : Tab) (t : List V) (n : Nat) (ty : TypeId) (x y : Operand) (ts : Array TypeId), ev1 ti t n ty (.call ⟨.builtin .min, #[x, y], ts⟩) = (minV false (opnd t x) (opnd t y)).map fun z => (z, n) := by intros; rfl
theorem kev2_6 : ∀ (ti : Tab) (t : List V) (n : Nat) (ty : TypeId) (x y : Operand) (ts : Array TypeId), ev1 ti t n ty (.call ⟨.builtin .max, #[x, y], ts⟩) = (minV true (opnd t x) (opnd t y)).map fun z => (z, n) := by intros; rfl
theorem kev2_7 : ∀ (t : List V) (i : Nat), opnd t (.tmp i) = nth t i := by intros; rfl
theorem kev2_8 : ∀ (t : List V) (v : Value), opnd t (.const v) = constV v := by intros; rfl
theorem kev2_9 : ∀ (t : List V) (f : FuncId), opnd t (.func f) = .fn f [] := by intros; rfl
theorem kev2_10 : ∀ (x : V) (l : List V), nth (x :: l) 0 = x := by intros; rfl
theorem kev2_11 : ∀ (x : V) (l : List V) (i : Nat), nth (x :: l) (i + 1) = nth l i := by intros; rfl
theorem kev3_0 : ∀ (k : IntKind) (n : Int), constV (.int k n) = .int k n := by intros; rfl
theorem kev3_1 : ∀ (b : Bool), constV (.bool b) = .bool b := by intros; rfl
theorem kev3_2 : ∀ (l : List UInt8), constV (.string ⟨l.toArray⟩) = .str l := by intros; rfl
theorem kev3_3 : constV (.slice none 0 0) = .nil 0 := by intros; rfl
theorem kev3_4 : constV (.pointer none) = .nilP := by intros; rfl
theorem kev3_5 : ∀ (ti : Tab) (ty : TypeId), retype ti ty .any = .any := by intros; rfl
theorem kev3_6 : ∀ (ti : Tab) (ty : TypeId) (b : Bool), retype ti ty (.bool b) = .bool b := by intros; rfl
theorem kev3_7 : ∀ (ti : Tab) (ty : TypeId) (k : IntKind) (n : Int), retype ti ty (.int k n) = .int k n := by intros; rfl
theorem kev3_8 : ∀ (ti : Tab) (ty : TypeId) (s : List UInt8), retype ti ty (.str s) = .str s := by intros; rfl
theorem kev3_9 : ∀ (ti : Tab) (ty : TypeId) (L sz off : Nat) (es : List (List V)), retype ti ty (.sl L sz off es) = .sl L sz off es := by intros; rfl
theorem kev3_10 : ∀ (ti : Tab) (ty : TypeId), retype ti ty .nilP = .nilP := by intros; rfl
theorem kev3_11 : ∀ (ti : Tab) (ty L i o : Nat) (e : List V), retype ti ty (.ptr L i o e) = .ptr L i o e := by intros; rfl
theorem kev4_0 : ∀ (ti : Tab) (ty f : Nat) (e : List V), retype ti ty (.fn f e) = .fn f e := by intros; rfl
theorem kev4_1 : ∀ (ti : Tab) (ty : Nat) (e : List V), retype ti ty (.agg e) = .agg e := by intros; rfl
theorem kev4_2 : ∀ (ti : Tab) (ty : Nat) (e : List V), retype ti ty (.tup e) = .tup e := by intros; rfl
theorem kev4_3 : ∀ (ti : Tab) (ty sz : Nat), retype ti ty (.nil sz) = .nil ((esz ti ty).getD 0) := by intros; rfl
theorem kev4_4 : ∀ (ti : Tab) (ty : Nat), esz ti ty = esz' ti (ti ty) := by intros; rfl
theorem kev4_5 : ∀ (ti : Tab) (e a b : Nat) (z : List V), esz' ti (some ⟨.slice e, a, b, z⟩) = (ti e).map (·.size) := by intros; rfl
theorem kev4_6 : ∀ (a b : V) (n : Nat), pickV (.bool true) a b n = some (a, n) := by intros; rfl
theorem kev4_7 : ∀ (a b : V) (n : Nat), pickV (.bool false) a b n = some (b, n) := by intros; rfl
theorem kev4_8 : ∀ (i : TInfo) (n : Nat), allocV (some i) n = allocR (lenIs i.zero i.size) i.zero n := by intros; first | rfl | (simp; done) | (rename_i e fs s b z; exact partA _ e fs s b z _) | (rename_i e fs s b z; exact partB _ e fs s b z) | (exact partA _ _ _ _ _ _ _) | (exact partB _ _ _ _ _ _) | (simp [allocV, allocR, lenIs]; done) | (simp [lenIs]; done) | (simp [takeC, consO]; done) | (simp [takeC, consO]; split <;> simp_all; done) | (simp [setsO, bindS]; done) | (simp [resPart, partV, Kind.isAgg]; done) | (simp [resPart, partV, Kind.isAgg, getC]; done) | (simp [binV', binV, intBin, strBin]; done) | (simp [binV', binV, intBin]; split <;> simp_all; done) | (simp [boxV, V.known]; done) | (simp [loadV', loadV, partV, Kind.isAgg, partV', loadC]; done) | (simp [loadV', loadV, partV, Kind.isAgg, partV', loadC]; split <;> simp_all; done) | (simp [binV', binV, strBin]; split <;> simp_all; done) | (unfold boolV binV' binV; rfl) | (simp only [lenV', lenFits, lenS]; split <;> simp_all [lenV]; done) | (simp only [lenV', lenFits, lenL]; split <;> simp_all [lenV]; done)
theorem kev4_9 : ∀ (x : V) (l : List V) (n : Nat), allocR true (x :: l) n = some (.ptr n 0 0 (x :: l), n + 1) := by intros; rfl
theorem kev4_10 : lenIs [] 0 = true := by intros; rfl
theorem kev4_11 : ∀ (x : V) (l : List V) (n : Nat), lenIs (x :: l) (n + 1) = lenIs l n := by intros; first | rfl | (simp; done) | (rename_i e fs s b z; exact partA _ e fs s b z _) | (rename_i e fs s b z; exact partB _ e fs s b z) | (exact partA _ _ _ _ _ _ _) | (exact partB _ _ _ _ _ _) | (simp [allocV, allocR, lenIs]; done) | (simp [lenIs]; done) | (simp [takeC, consO]; done) | (simp [takeC, consO]; split <;> simp_all; done) | (simp [setsO, bindS]; done) | (simp [resPart, partV, Kind.isAgg]; done) | (simp [resPart, partV, Kind.isAgg, getC]; done) | (simp [binV', binV, intBin, strBin]; done) | (simp [binV', binV, intBin]; split <;> simp_all; done) | (simp [boxV, V.known]; done) | (simp [loadV', loadV, partV, Kind.isAgg, partV', loadC]; done) | (simp [loadV', loadV, partV, Kind.isAgg, partV', loadC]; split <;> simp_all; done) | (simp [binV', binV, strBin]; split <;> simp_all; done) | (unfold boolV binV' binV; rfl) | (simp only [lenV', lenFits, lenS]; split <;> simp_all [lenV]; done) | (simp only [lenV', lenFits, lenL]; split <;> simp_all [lenV]; done)
theorem kev5_0 : ∀ (x : V) (l : List V) (n : Nat), dropC (x :: l) (n + 1) = dropC l n := by intros; rfl
theorem kev5_1 : ∀ (l : List V), dropC l 0 = l := by intros; rfl
theorem kev5_2 : ∀ (l : List V), takeC l 0 = some [] := by intros; rfl
theorem kev5_3 : ∀ (x : V) (l : List V) (n : Nat), takeC (x :: l) (n + 1) = consO x (takeC l n) := by intros; first | rfl | (simp; done) | (rename_i e fs s b z; exact partA _ e fs s b z _) | (rename_i e fs s b z; exact partB _ e fs s b z) | (exact partA _ _ _ _ _ _ _) | (exact partB _ _ _ _ _ _) | (simp [allocV, allocR, lenIs]; done) | (simp [lenIs]; done) | (simp [takeC, consO]; done) | (simp [takeC, consO]; split <;> simp_all; done) | (simp [setsO, bindS]; done) | (simp [resPart, partV, Kind.isAgg]; done) | (simp [resPart, partV, Kind.isAgg, getC]; done) | (simp [binV', binV, intBin, strBin]; done) | (simp [binV', binV, intBin]; split <;> simp_all; done) | (simp [boxV, V.known]; done) | (simp [loadV', loadV, partV, Kind.isAgg, partV', loadC]; done) | (simp [loadV', loadV, partV, Kind.isAgg, partV', loadC]; split <;> simp_all; done) | (simp [binV', binV, strBin]; split <;> simp_all; done) | (unfold boolV binV' binV; rfl) | (simp only [lenV', lenFits, lenS]; split <;> simp_all [lenV]; done) | (simp only [lenV', lenFits, lenL]; split <;> simp_all [lenV]; done)
theorem kev5_4 : ∀ (x : V) (l : List V), consO x (some l) = some (x :: l) := by intros; rfl
theorem kev5_5 : ∀ (l : List V) (n : Nat), aggR (some l) n = some (.agg l, n) := by intros; rfl
theorem kev5_6 : ∀ (l : List V), aggR1 (some l) = some (.agg l) := by intros; rfl
theorem kev5_7 : ∀ (i : TInfo) (L j o : Nat) (e : List V) (x : V), storeE (some i) (.ptr (L + 1) j o e) x = storeR (setsO e o (cellsV x) i.size) (L + 1) j := by intros; rfl
theorem kev5_8 : ∀ (e : List V) (L j : Nat), storeR (some e) L j = some (L, j, e) := by intros; rfl
theorem kev5_9 : ∀ (e : List V) (o : Nat), setsO e o [] 0 = some e := by intros; rfl
theorem kev5_10 : ∀ (e cs : List V) (o s : Nat) (x : V), setsO e o (x :: cs) (s + 1) = bindS (oneO x (setO e o x)) (o + 1) cs s := by intros; rfl
theorem kev5_11 : ∀ (e cs : List V) (o s : Nat), bindS (some e) o cs s = setsO e o cs s := by intros; rfl
theorem kev6_0 : ∀ (y x : V) (e : List V), setO (y :: e) 0 x = some (x :: e) := by intros; rfl
theorem kev6_1 : ∀ (y x : V) (e : List V) (o : Nat), setO (y :: e) (o + 1) x = consO y (setO e o x) := by intros; rfl
theorem kev6_2 : ∀ (y : Option (List V)) (b : Bool), oneO (.bool b) y = y := by intros; rfl
theorem kev6_3 : ∀ (y : Option (List V)) (k : IntKind) (b : Int), oneO (.int k b) y = y := by intros; rfl
theorem kev6_4 : ∀ (y : Option (List V)) (b : List UInt8), oneO (.str b) y = y := by intros; rfl
theorem kev6_5 : ∀ (y : Option (List V)) (b : Nat), oneO (.nil b) y = y := by intros; rfl
theorem kev6_6 : ∀ (y : Option (List V)) (L i o : Nat) (e : List V), oneO (.ptr L i o e) y = y := by intros; rfl
theorem kev6_7 : ∀ (y : Option (List V)) (L i o : Nat) (e : List (List V)), oneO (.sl L i o e) y = y := by intros; rfl
theorem kev6_8 : ∀ (y : Option (List V)) (f : Nat) (e : List V), oneO (.fn f e) y = y := by intros; rfl
theorem kev6_9 : ∀ (b : Bool) (n : Nat), boxV (.bool b) n = some (.ptr n 0 0 [.bool b], n + 1) := by intros; rfl
theorem kev6_10 : ∀ (b : Bool), cellsV (.bool b) = [.bool b] := by intros; rfl
theorem kev6_11 : ∀ (b : Bool), V.known (.bool b) = true := by intros; rfl
theorem kev7_0 : ∀ (k : IntKind) (m : Int) (n : Nat), boxV (.int k m) n = some (.ptr n 0 0 [.int k m], n + 1) := by intros; rfl
theorem kev7_1 : ∀ (k : IntKind) (m : Int), cellsV (.int k m) = [.int k m] := by intros; rfl
theorem kev7_2 : ∀ (k : IntKind) (m : Int), V.known (.int k m) = true := by intros; rfl
theorem kev7_3 : ∀ (s : List UInt8) (n : Nat), boxV (.str s) n = some (.ptr n 0 0 [.str s], n + 1) := by intros; rfl
theorem kev7_4 : ∀ (s : List UInt8), cellsV (.str s) = [.str s] := by intros; rfl
theorem kev7_5 : ∀ (s : List UInt8), V.known (.str s) = true := by intros; rfl
theorem kev7_6 : ∀ (L sz off : Nat) (es : List (List V)) (n : Nat), boxV (.sl L sz off es) n = some (.ptr n 0 0 [.sl L sz off es], n + 1) := by intros; rfl
theorem kev7_7 : ∀ (L sz off : Nat) (es : List (List V)), cellsV (.sl L sz off es) = [.sl L sz off es] := by intros; rfl
theorem kev7_8 : ∀ (L sz off : Nat) (es : List (List V)), V.known (.sl L sz off es) = true := by intros; rfl
theorem kev7_9 : ∀ (sz : Nat) (n : Nat), boxV (.nil sz) n = some (.ptr n 0 0 [.nil sz], n + 1) := by intros; rfl
theorem kev7_10 : ∀ (sz : Nat), cellsV (.nil sz) = [.nil sz] := by intros; rfl
theorem kev7_11 : ∀ (sz : Nat), V.known (.nil sz) = true := by intros; rfl
theorem kev8_0 : ∀ (L i o : Nat) (e : List V) (n : Nat), boxV (.ptr L i o e) n = some (.ptr n 0 0 [.ptr L i o e], n + 1) := by intros; rfl
theorem kev8_1 : ∀ (L i o : Nat) (e : List V), cellsV (.ptr L i o e) = [.ptr L i o e] := by intros; rfl
theorem kev8_2 : ∀ (L i o : Nat) (e : List V), V.known (.ptr L i o e) = true := by intros; rfl
theorem kev8_3 : ∀ (f : Nat) (e : List V) (n : Nat), boxV (.fn f e) n = some (.ptr n 0 0 [.fn f e], n + 1) := by intros; rfl
theorem kev8_4 : ∀ (f : Nat) (e : List V), cellsV (.fn f e) = [.fn f e] := by intros; rfl
theorem kev8_5 : ∀ (f : Nat) (e : List V), V.known (.fn f e) = true := by intros; rfl
theorem kev8_6 : ∀ (cs : List V) (n : Nat), boxV (.agg cs) n = some (.ptr n 0 0 cs, n + 1) := by intros; rfl
theorem kev8_7 : ∀ (cs : List V), cellsV (.agg cs) = cs := by intros; rfl
theorem kev8_8 : ∀ (cs : List V), V.known (.agg cs) = true := by intros; rfl
theorem kev8_9 : ∀ (b : Bool), V.one (.bool b) = true := by intros; rfl
theorem kev8_10 : ∀ (k : IntKind) (m : Int), V.one (.int k m) = true := by intros; rfl
theorem kev8_11 : ∀ (s : List UInt8), V.one (.str s) = true := by intros; rfl
theorem kev9_0 : ∀ (L sz off : Nat) (es : List (List V)), V.one (.sl L sz off es) = true := by intros; rfl
theorem kev9_1 : ∀ (sz : Nat), V.one (.nil sz) = true := by intros; rfl
theorem kev9_2 : ∀ (L i o : Nat) (e : List V), V.one (.ptr L i o e) = true := by intros; rfl
theorem kev9_3 : ∀ (f : Nat) (e : List V), V.one (.fn f e) = true := by intros; rfl
theorem kev9_4 : ∀ (L i o n : Nat) (e : List V) (fs : List (Nat × TypeId)) (s b : Nat) (z : List V), loadV' (some ⟨.struct fs, s + 1, b, z⟩) (.ptr L i o e) n = aggR (takeC (dropC e o) (s + 1)) n := by intros; first | rfl | (simp; done) | (rename_i e fs s b z; exact partA _ e fs s b z _) | (rename_i e fs s b z; exact partB _ e fs s b z) | (exact partA _ _ _ _ _ _ _) | (exact partB _ _ _ _ _ _) | (simp [allocV, allocR, lenIs]; done) | (simp [lenIs]; done) | (simp [takeC, consO]; done) | (simp [takeC, consO]; split <;> simp_all; done) | (simp [setsO, bindS]; done) | (simp [resPart, partV, Kind.isAgg]; done) | (simp [resPart, partV, Kind.isAgg, getC]; done) | (simp [binV', binV, intBin, strBin]; done) | (simp [binV', binV, intBin]; split <;> simp_all; done) | (simp [boxV, V.known]; done) | (simp [loadV', loadV, partV, Kind.isAgg, partV', loadC]; done) | (simp [loadV', loadV, partV, Kind.isAgg, partV', loadC]; split <;> simp_all; done) | (simp [binV', binV, strBin]; split <;> simp_all; done) | (unfold boolV binV' binV; rfl) | (simp only [lenV', lenFits, lenS]; split <;> simp_all [lenV]; done) | (simp only [lenV', lenFits, lenL]; split <;> simp_all [lenV]; done)
theorem kev9_5 : ∀  (L i o n : Nat) (e : List V) (s b : Nat) (z : List V), loadV' (some ⟨.bool, s, b, z⟩) (.ptr L i o e) n = loadC e o n := by intros; rfl
theorem kev9_6 : ∀  (o n : Nat) (e : List V) (s b : Nat) (z : List V), partV' ⟨.bool, s, b, z⟩ e o n = loadC e o n := by intros; rfl
theorem kev9_7 : ∀ (k : IntKind) (L i o n : Nat) (e : List V) (s b : Nat) (z : List V), loadV' (some ⟨.int k, s, b, z⟩) (.ptr L i o e) n = loadC e o n := by intros; rfl
theorem kev9_8 : ∀ (k : IntKind) (o n : Nat) (e : List V) (s b : Nat) (z : List V), partV' ⟨.int k, s, b, z⟩ e o n = loadC e o n := by intros; rfl
theorem kev9_9 : ∀  (L i o n : Nat) (e : List V) (s b : Nat) (z : List V), loadV' (some ⟨.str, s, b, z⟩) (.ptr L i o e) n = loadC e o n := by intros; rfl
theorem kev9_10 : ∀  (o n : Nat) (e : List V) (s b : Nat) (z : List V), partV' ⟨.str, s, b, z⟩ e o n = loadC e o n := by intros; rfl
theorem kev9_11 : ∀ (y : TypeId) (L i o n : Nat) (e : List V) (s b : Nat) (z : List V), loadV' (some ⟨.slice y, s, b, z⟩) (.ptr L i o e) n = loadC e o n := by intros; rfl
theorem kev10_0 : ∀ (y : TypeId) (o n : Nat) (e : List V) (s b : Nat) (z : List V), partV' ⟨.slice y, s, b, z⟩ e o n = loadC e o n := by intros; rfl
theorem kev10_1 : ∀ (y : TypeId) (L i o n : Nat) (e : List V) (s b : Nat) (z : List V), loadV' (some ⟨.ptr y, s, b, z⟩) (.ptr L i o e) n = loadC e o n := by intros; rfl
theorem kev10_2 : ∀ (y : TypeId) (o n : Nat) (e : List V) (s b : Nat) (z : List V), partV' ⟨.ptr y, s, b, z⟩ e o n = loadC e o n := by intros; rfl
theorem kev10_3 : ∀  (L i o n : Nat) (e : List V) (s b : Nat) (z : List V), loadV' (some ⟨.other, s, b, z⟩) (.ptr L i o e) n = loadC e o n := by intros; rfl
theorem kev10_4 : ∀  (o n : Nat) (e : List V) (s b : Nat) (z : List V), partV' ⟨.other, s, b, z⟩ e o n = loadC e o n := by intros; rfl
theorem kev10_5 : ∀ (o n : Nat) (e : List V) (fs : List (Nat × TypeId)) (s b : Nat) (z : List V), partV' ⟨.struct fs, s + 1, b, z⟩ e o n = aggR (takeC (dropC e o) (s + 1)) n := by intros; first | rfl | (simp; done) | (rename_i e fs s b z; exact partA _ e fs s b z _) | (rename_i e fs s b z; exact partB _ e fs s b z) | (exact partA _ _ _ _ _ _ _) | (exact partB _ _ _ _ _ _) | (simp [allocV, allocR, lenIs]; done) | (simp [lenIs]; done) | (simp [takeC, consO]; done) | (simp [takeC, consO]; split <;> simp_all; done) | (simp [setsO, bindS]; done) | (simp [resPart, partV, Kind.isAgg]; done) | (simp [resPart, partV, Kind.isAgg, getC]; done) | (simp [binV', binV, intBin, strBin]; done) | (simp [binV', binV, intBin]; split <;> simp_all; done) | (simp [boxV, V.known]; done) | (simp [loadV', loadV, partV, Kind.isAgg, partV', loadC]; done) | (simp [loadV', loadV, partV, Kind.isAgg, partV', loadC]; split <;> simp_all; done) | (simp [binV', binV, strBin]; split <;> simp_all; done) | (unfold boolV binV' binV; rfl) | (simp only [lenV', lenFits, lenS]; split <;> simp_all [lenV]; done) | (simp only [lenV', lenFits, lenL]; split <;> simp_all [lenV]; done)
theorem kev10_6 : ∀ (x : V) (e : List V) (n : Nat), loadC (x :: e) 0 n = some (x, n) := by intros; rfl
theorem kev10_7 : ∀ (x : V) (e : List V) (n i : Nat), loadC (x :: e) (i + 1) n = loadC e i n := by intros; rfl
theorem kev10_8 : ∀ (L i o n : Nat) (e : List V), nilCheckV (.ptr L i o e) n = some (.ptr L i o e, n) := by intros; rfl
theorem kev10_9 : ∀ (f n : Nat) (e : List V), nilCheckV (.fn f e) n = some (.fn f e, n) := by intros; rfl
theorem kev10_10 : ∀ (ti : Tab) (T n : Nat) (k : IntKind) (x y : Int), binV' ti .add T (.int k x) (.int k y) n = some (.int k (k.wrap (x + y)), n) := by intros; first | rfl | (simp; done) | (rename_i e fs s b z; exact partA _ e fs s b z _) | (rename_i e fs s b z; exact partB _ e fs s b z) | (exact partA _ _ _ _ _ _ _) | (exact partB _ _ _ _ _ _) | (simp [allocV, allocR, lenIs]; done) | (simp [lenIs]; done) | (simp [takeC, consO]; done) | (simp [takeC, consO]; split <;> simp_all; done) | (simp [setsO, bindS]; done) | (simp [resPart, partV, Kind.isAgg]; done) | (simp [resPart, partV, Kind.isAgg, getC]; done) | (simp [binV', binV, intBin, strBin]; done) | (simp [binV', binV, intBin]; split <;> simp_all; done) | (simp [boxV, V.known]; done) | (simp [loadV', loadV, partV, Kind.isAgg, partV', loadC]; done) | (simp [loadV', loadV, partV, Kind.isAgg, partV', loadC]; split <;> simp_all; done) | (simp [binV', binV, strBin]; split <;> simp_all; done) | (unfold boolV binV' binV; rfl) | (simp only [lenV', lenFits, lenS]; split <;> simp_all [lenV]; done) | (simp only [lenV', lenFits, lenL]; split <;> simp_all [lenV]; done)
theorem kev10_11 : ∀ (ti : Tab) (T n : Nat) (k : IntKind) (x y : Int), binV' ti .sub T (.int k x) (.int k y) n = some (.int k (k.wrap (x - y)), n) := by intros; first | rfl | (simp; done) | (rename_i e fs s b z; exact partA _ e fs s b z _) | (rename_i e fs s b z; exact partB _ e fs s b z) | (exact partA _ _ _ _ _ _ _) | (exact partB _ _ _ _ _ _) | (simp [allocV, allocR, lenIs]; done) | (simp [lenIs]; done) | (simp [takeC, consO]; done) | (simp [takeC, consO]; split <;> simp_all; done) | (simp [setsO, bindS]; done) | (simp [resPart, partV, Kind.isAgg]; done) | (simp [resPart, partV, Kind.isAgg, getC]; done) | (simp [binV', binV, intBin, strBin]; done) | (simp [binV', binV, intBin]; split <;> simp_all; done) | (simp [boxV, V.known]; done) | (simp [loadV', loadV, partV, Kind.isAgg, partV', loadC]; done) | (simp [loadV', loadV, partV, Kind.isAgg, partV', loadC]; split <;> simp_all; done) | (simp [binV', binV, strBin]; split <;> simp_all; done) | (unfold boolV binV' binV; rfl) | (simp only [lenV', lenFits, lenS]; split <;> simp_all [lenV]; done) | (simp only [lenV', lenFits, lenL]; split <;> simp_all [lenV]; done)
theorem kev11_0 : ∀ (ti : Tab) (T n : Nat) (k : IntKind) (x y : Int), binV' ti .mul T (.int k x) (.int k y) n = some (.int k (k.wrap (x * y)), n) := by intros; first | rfl | (simp; done) | (rename_i e fs s b z; exact partA _ e fs s b z _) | (rename_i e fs s b z; exact partB _ e fs s b z) | (exact partA _ _ _ _ _ _ _) | (exact partB _ _ _ _ _ _) | (simp [allocV, allocR, lenIs]; done) | (simp [lenIs]; done) | (simp [takeC, consO]; done) | (simp [takeC, consO]; split <;> simp_all; done) | (simp [setsO, bindS]; done) | (simp [resPart, partV, Kind.isAgg]; done) | (simp [resPart, partV, Kind.isAgg, getC]; done) | (simp [binV', binV, intBin, strBin]; done) | (simp [binV', binV, intBin]; split <;> simp_all; done) | (simp [boxV, V.known]; done) | (simp [loadV', loadV, partV, Kind.isAgg, partV', loadC]; done) | (simp [loadV', loadV, partV, Kind.isAgg, partV', loadC]; split <;> simp_all; done) | (simp [binV', binV, strBin]; split <;> simp_all; done) | (unfold boolV binV' binV; rfl) | (simp only [lenV', lenFits, lenS]; split <;> simp_all [lenV]; done) | (simp only [lenV', lenFits, lenL]; split <;> simp_all [lenV]; done)
theorem kev11_1 : ∀ (ti : Tab) (T n : Nat) (k : IntKind) (x y : Int), binV' ti .eql T (.int k x) (.int k y) n = some (.bool (decide (x = y)), n) := by intros; first | rfl | (simp; done) | (rename_i e fs s b z; exact partA _ e fs s b z _) | (rename_i e fs s b z; exact partB _ e fs s b z) | (exact partA _ _ _ _ _ _ _) | (exact partB _ _ _ _ _ _) | (simp [allocV, allocR, lenIs]; done) | (simp [lenIs]; done) | (simp [takeC, consO]; done) | (simp [takeC, consO]; split <;> simp_all; done) | (simp [setsO, bindS]; done) | (simp [resPart, partV, Kind.isAgg]; done) | (simp [resPart, partV, Kind.isAgg, getC]; done) | (simp [binV', binV, intBin, strBin]; done) | (simp [binV', binV, intBin]; split <;> simp_all; done) | (simp [boxV, V.known]; done) | (simp [loadV', loadV, partV, Kind.isAgg, partV', loadC]; done) | (simp [loadV', loadV, partV, Kind.isAgg, partV', loadC]; split <;> simp_all; done) | (simp [binV', binV, strBin]; split <;> simp_all; done) | (unfold boolV binV' binV; rfl) | (simp only [lenV', lenFits, lenS]; split <;> simp_all [lenV]; done) | (simp only [lenV', lenFits, lenL]; split <;> simp_all [lenV]; done)
theorem kev11_2 : ∀ (ti : Tab) (T n : Nat) (k : IntKind) (x y : Int), binV' ti .neq T (.int k x) (.int k y) n = some (.bool (!decide (x = y)), n) := by intros; first | rfl | (simp; done) | (rename_i e fs s b z; exact partA _ e fs s b z _) | (rename_i e fs s b z; exact partB _ e fs s b z) | (exact partA _ _ _ _ _ _ _) | (exact partB _ _ _ _ _ _) | (simp [allocV, allocR, lenIs]; done) | (simp [lenIs]; done) | (simp [takeC, consO]; done) | (simp [takeC, consO]; split <;> simp_all; done) | (simp [setsO, bindS]; done) | (simp [resPart, partV, Kind.isAgg]; done) | (simp [resPart, partV, Kind.isAgg, getC]; done) | (simp [binV', binV, intBin, strBin]; done) | (simp [binV', binV, intBin]; split <;> simp_all; done) | (simp [boxV, V.known]; done) | (simp [loadV', loadV, partV, Kind.isAgg, partV', loadC]; done) | (simp [loadV', loadV, partV, Kind.isAgg, partV', loadC]; split <;> simp_all; done) | (simp [binV', binV, strBin]; split <;> simp_all; done) | (unfold boolV binV' binV; rfl) | (simp only [lenV', lenFits, lenS]; split <;> simp_all [lenV]; done) | (simp only [lenV', lenFits, lenL]; split <;> simp_all [lenV]; done)
theorem kev11_3 : ∀ (ti : Tab) (T n : Nat) (k : IntKind) (x y : Int), binV' ti .lss T (.int k x) (.int k y) n = some (.bool (decide (x < y)), n) := by intros; first | rfl | (simp; done) | (rename_i e fs s b z; exact partA _ e fs s b z _) | (rename_i e fs s b z; exact partB _ e fs s b z) | (exact partA _ _ _ _ _ _ _) | (exact partB _ _ _ _ _ _) | (simp [allocV, allocR, lenIs]; done) | (simp [lenIs]; done) | (simp [takeC, consO]; done) | (simp [takeC, consO]; split <;> simp_all; done) | (simp [setsO, bindS]; done) | (simp [resPart, partV, Kind.isAgg]; done) | (simp [resPart, partV, Kind.isAgg, getC]; done) | (simp [binV', binV, intBin, strBin]; done) | (simp [binV', binV, intBin]; split <;> simp_all; done) | (simp [boxV, V.known]; done) | (simp [loadV', loadV, partV, Kind.isAgg, partV', loadC]; done) | (simp [loadV', loadV, partV, Kind.isAgg, partV', loadC]; split <;> simp_all; done) | (simp [binV', binV, strBin]; split <;> simp_all; done) | (unfold boolV binV' binV; rfl) | (simp only [lenV', lenFits, lenS]; split <;> simp_all [lenV]; done) | (simp only [lenV', lenFits, lenL]; split <;> simp_all [lenV]; done)
theorem kev11_4 : ∀ (ti : Tab) (T n : Nat) (k : IntKind) (x y : Int), binV' ti .leq T (.int k x) (.int k y) n = some (.bool (decide (x ≤ y)), n) := by intros; first | rfl | (simp; done) | (rename_i e fs s b z; exact partA _ e fs s b z _) | (rename_i e fs s b z; exact partB _ e fs s b z) | (exact partA _ _ _ _ _ _ _) | (exact partB _ _ _ _ _ _) | (simp [allocV, allocR, lenIs]; done) | (simp [lenIs]; done) | (simp [takeC, consO]; done) | (simp [takeC, consO]; split <;> simp_all; done) | (simp [setsO, bindS]; done) | (simp [resPart, partV, Kind.isAgg]; done) | (simp [resPart, partV, Kind.isAgg, getC]; done) | (simp [binV', binV, intBin, strBin]; done) | (simp [binV', binV, intBin]; split <;> simp_all; done) | (simp [boxV, V.known]; done) | (simp [loadV', loadV, partV, Kind.isAgg, partV', loadC]; done) | (simp [loadV', loadV, partV, Kind.isAgg, partV', loadC]; split <;> simp_all; done) | (simp [binV', binV, strBin]; split <;> simp_all; done) | (unfold boolV binV' binV; rfl) | (simp only [lenV', lenFits, lenS]; split <;> simp_all [lenV]; done) | (simp only [lenV', lenFits, lenL]; split <;> simp_all [lenV]; done)
theorem kev11_5 : ∀ (ti : Tab) (T n : Nat) (k : IntKind) (x y : Int), binV' ti .gtr T (.int k x) (.int k y) n = some (.bool (decide (x > y)), n) := by intros; first | rfl | (simp; done) | (rename_i e fs s b z; exact partA _ e fs s b z _) | (rename_i e fs s b z; exact partB _ e fs s b z) | (exact partA _ _ _ _ _ _ _) | (exact partB _ _ _ _ _ _) | (simp [allocV, allocR, lenIs]; done) | (simp [lenIs]; done) | (simp [takeC, consO]; done) | (simp [takeC, consO]; split <;> simp_all; done) | (simp [setsO, bindS]; done) | (simp [resPart, partV, Kind.isAgg]; done) | (simp [resPart, partV, Kind.isAgg, getC]; done) | (simp [binV', binV, intBin, strBin]; done) | (simp [binV', binV, intBin]; split <;> simp_all; done) | (simp [boxV, V.known]; done) | (simp [loadV', loadV, partV, Kind.isAgg, partV', loadC]; done) | (simp [loadV', loadV, partV, Kind.isAgg, partV', loadC]; split <;> simp_all; done) | (simp [binV', binV, strBin]; split <;> simp_all; done) | (unfold boolV binV' binV; rfl) | (simp only [lenV', lenFits, lenS]; split <;> simp_all [lenV]; done) | (simp only [lenV', lenFits, lenL]; split <;> simp_all [lenV]; done)
theorem kev11_6 : ∀ (ti : Tab) (T n : Nat) (k : IntKind) (x y : Int), binV' ti .geq T (.int k x) (.int k y) n = some (.bool (decide (x ≥ y)), n) := by intros; first | rfl | (simp; done) | (rename_i e fs s b z; exact partA _ e fs s b z _) | (rename_i e fs s b z; exact partB _ e fs s b z) | (exact partA _ _ _ _ _ _ _) | (exact partB _ _ _ _ _ _) | (simp [allocV, allocR, lenIs]; done) | (simp [lenIs]; done) | (simp [takeC, consO]; done) | (simp [takeC, consO]; split <;> simp_all; done) | (simp [setsO, bindS]; done) | (simp [resPart, partV, Kind.isAgg]; done) | (simp [resPart, partV, Kind.isAgg, getC]; done) | (simp [binV', binV, intBin, strBin]; done) | (simp [binV', binV, intBin]; split <;> simp_all; done) | (simp [boxV, V.known]; done) | (simp [loadV', loadV, partV, Kind.isAgg, partV', loadC]; done) | (simp [loadV', loadV, partV, Kind.isAgg, partV', loadC]; split <;> simp_all; done) | (simp [binV', binV, strBin]; split <;> simp_all; done) | (unfold boolV binV' binV; rfl) | (simp only [lenV', lenFits, lenS]; split <;> simp_all [lenV]; done) | (simp only [lenV', lenFits, lenL]; split <;> simp_all [lenV]; done)
theorem kev11_7 : ∀ (ti : Tab) (T n : Nat) (k : IntKind) (x y : Int), binV' ti .quo T (.int k x) (.int k y) n = if y = 0 then none else some (.int k (k.wrap (x.tdiv y)), n) := by intros; first | rfl | (simp; done) | (rename_i e fs s b z; exact partA _ e fs s b z _) | (rename_i e fs s b z; exact partB _ e fs s b z) | (exact partA _ _ _ _ _ _ _) | (exact partB _ _ _ _ _ _) | (simp [allocV, allocR, lenIs]; done) | (simp [lenIs]; done) | (simp [takeC, consO]; done) | (simp [takeC, consO]; split <;> simp_all; done) | (simp [setsO, bindS]; done) | (simp [resPart, partV, Kind.isAgg]; done) | (simp [resPart, partV, Kind.isAgg, getC]; done) | (simp [binV', binV, intBin, strBin]; done) | (simp [binV', binV, intBin]; split <;> simp_all; done) | (simp [boxV, V.known]; done) | (simp [loadV', loadV, partV, Kind.isAgg, partV', loadC]; done) | (simp [loadV', loadV, partV, Kind.isAgg, partV', loadC]; split <;> simp_all; done) | (simp [binV', binV, strBin]; split <;> simp_all; done) | (unfold boolV binV' binV; rfl) | (simp only [lenV', lenFits, lenS]; split <;> simp_all [lenV]; done) | (simp only [lenV', lenFits, lenL]; split <;> simp_all [lenV]; done)
theorem kev11_8 : ∀ (ti : Tab) (T n : Nat) (k : IntKind) (x y : Int), binV' ti .rem T (.int k x) (.int k y) n = if y = 0 then none else some (.int k (x.tmod y), n) := by intros; first | rfl | (simp; done) | (rename_i e fs s b z; exact partA _ e fs s b z _) | (rename_i e fs s b z; exact partB _ e fs s b z) | (exact partA _ _ _ _ _ _ _) | (exact partB _ _ _ _ _ _) | (simp [allocV, allocR, lenIs]; done) | (simp [lenIs]; done) | (simp [takeC, consO]; done) | (simp [takeC, consO]; split <;> simp_all; done) | (simp [setsO, bindS]; done) | (simp [resPart, partV, Kind.isAgg]; done) | (simp [resPart, partV, Kind.isAgg, getC]; done) | (simp [binV', binV, intBin, strBin]; done) | (simp [binV', binV, intBin]; split <;> simp_all; done) | (simp [boxV, V.known]; done) | (simp [loadV', loadV, partV, Kind.isAgg, partV', loadC]; done) | (simp [loadV', loadV, partV, Kind.isAgg, partV', loadC]; split <;> simp_all; done) | (simp [binV', binV, strBin]; split <;> simp_all; done) | (unfold boolV binV' binV; rfl) | (simp only [lenV', lenFits, lenS]; split <;> simp_all [lenV]; done) | (simp only [lenV', lenFits, lenL]; split <;> simp_all [lenV]; done)
theorem kev11_9 : ∀ (ti : Tab) (T n : Nat) (k : IntKind) (x y : Int), binV' ti .and T (.int k x) (.int k y) n = some (.int k (k.wrap (BitVec.ofInt k.bits x &&& BitVec.ofInt k.bits y).toNat), n) := by intros; first | rfl | (simp; done) | (rename_i e fs s b z; exact partA _ e fs s b z _) | (rename_i e fs s b z; exact partB _ e fs s b z) | (exact partA _ _ _ _ _ _ _) | (exact partB _ _ _ _ _ _) | (simp [allocV, allocR, lenIs]; done) | (simp [lenIs]; done) | (simp [takeC, consO]; done) | (simp [takeC, consO]; split <;> simp_all; done) | (simp [setsO, bindS]; done) | (simp [resPart, partV, Kind.isAgg]; done) | (simp [resPart, partV, Kind.isAgg, getC]; done) | (simp [binV', binV, intBin, strBin]; done) | (simp [binV', binV, intBin]; split <;> simp_all; done) | (simp [boxV, V.known]; done) | (simp [loadV', loadV, partV, Kind.isAgg, partV', loadC]; done) | (simp [loadV', loadV, partV, Kind.isAgg, partV', loadC]; split <;> simp_all; done) | (simp [binV', binV, strBin]; split <;> simp_all; done) | (unfold boolV binV' binV; rfl) | (simp only [lenV', lenFits, lenS]; split <;> simp_all [lenV]; done) | (simp only [lenV', lenFits, lenL]; split <;> simp_all [lenV]; done)
theorem kev11_10 : ∀ (ti : Tab) (T n : Nat) (k : IntKind) (x y : Int), binV' ti .or T (.int k x) (.int k y) n = some (.int k (k.wrap (BitVec.ofInt k.bits x ||| BitVec.ofInt k.bits y).toNat), n) := by intros; first | rfl | (simp; done) | (rename_i e fs s b z; exact partA _ e fs s b z _) | (rename_i e fs s b z; exact partB _ e fs s b z) | (exact partA _ _ _ _ _ _ _) | (exact partB _ _ _ _ _ _) | (simp [allocV, allocR, lenIs]; done) | (simp [lenIs]; done) | (simp [takeC, consO]; done) | (simp [takeC, consO]; split <;> simp_all; done) | (simp [setsO, bindS]; done) | (simp [resPart, partV, Kind.isAgg]; done) | (simp [resPart, partV, Kind.isAgg, getC]; done) | (simp [binV', binV, intBin, strBin]; done) | (simp [binV', binV, intBin]; split <;> simp_all; done) | (simp [boxV, V.known]; done) | (simp [loadV', loadV, partV, Kind.isAgg, partV', loadC]; done) | (simp [loadV', loadV, partV, Kind.isAgg, partV', loadC]; split <;> simp_all; done) | (simp [binV', binV, strBin]; split <;> simp_all; done) | (unfold boolV binV' binV; rfl) | (simp only [lenV', lenFits, lenS]; split <;> simp_all [lenV]; done) | (simp only [lenV', lenFits, lenL]; split <;> simp_all [lenV]; done)
theorem kev11_11 : ∀ (ti : Tab) (T n : Nat) (k : IntKind) (x y : Int), binV' ti .xor T (.int k x) (.int k y) n = some (.int k (k.wrap (BitVec.ofInt k.bits x ^^^ BitVec.ofInt k.bits y).toNat), n) := by intros; first | rfl | (simp; done) | (rename_i e fs s b z; exact partA _ e fs s b z _) | (rename_i e fs s b z; exact partB _ e fs s b z) | (exact partA _ _ _ _ _ _ _) | (exact partB _ _ _ _ _ _) | (simp [allocV, allocR, lenIs]; done) | (simp [lenIs]; done) | (simp [takeC, consO]; done) | (simp [takeC, consO]; split <;> simp_all; done) | (simp [setsO, bindS]; done) | (simp [resPart, partV, Kind.isAgg]; done) | (simp [resPart, partV, Kind.isAgg, getC]; done) | (simp [binV', binV, intBin, strBin]; done) | (simp [binV', binV, intBin]; split <;> simp_all; done) | (simp [boxV, V.known]; done) | (simp [loadV', loadV, partV, Kind.isAgg, partV', loadC]; done) | (simp [loadV', loadV, partV, Kind.isAgg, partV', loadC]; split <;> simp_all; done) | (simp [binV', binV, strBin]; split <;> simp_all; done) | (unfold boolV binV' binV; rfl) | (simp only [lenV', lenFits, lenS]; split <;> simp_all [lenV]; done) | (simp only [lenV', lenFits, lenL]; split <;> simp_all [lenV]; done)
theorem kev12_0 : ∀ (ti : Tab) (T n : Nat) (k k2 : IntKind) (x y : Int), binV' ti .shl T (.int k x) (.int k2 y) n = if y < 0 then none else some (.int k (k.wrap (x * 2 ^ min y.toNat k.bits)), n) := by intros; first | rfl | (simp; done) | (rename_i e fs s b z; exact partA _ e fs s b z _) | (rename_i e fs s b z; exact partB _ e fs s b z) | (exact partA _ _ _ _ _ _ _) | (exact partB _ _ _ _ _ _) | (simp [allocV, allocR, lenIs]; done) | (simp [lenIs]; done) | (simp [takeC, consO]; done) | (simp [takeC, consO]; split <;> simp_all; done) | (simp [setsO, bindS]; done) | (simp [resPart, partV, Kind.isAgg]; done) | (simp [resPart, partV, Kind.isAgg, getC]; done) | (simp [binV', binV, intBin, strBin]; done) | (simp [binV', binV, intBin]; split <;> simp_all; done) | (simp [boxV, V.known]; done) | (simp [loadV', loadV, partV, Kind.isAgg, partV', loadC]; done) | (simp [loadV', loadV, partV, Kind.isAgg, partV', loadC]; split <;> simp_all; done) | (simp [binV', binV, strBin]; split <;> simp_all; done) | (unfold boolV binV' binV; rfl) | (simp only [lenV', lenFits, lenS]; split <;> simp_all [lenV]; done) | (simp only [lenV', lenFits, lenL]; split <;> simp_all [lenV]; done)
theorem kev12_1 : ∀ (ti : Tab) (T n : Nat) (k k2 : IntKind) (x y : Int), binV' ti .shr T (.int k x) (.int k2 y) n = if y < 0 then none else some (.int k (x.fdiv (2 ^ min y.toNat k.bits)), n) := by intros; first | rfl | (simp; done) | (rename_i e fs s b z; exact partA _ e fs s b z _) | (rename_i e fs s b z; exact partB _ e fs s b z) | (exact partA _ _ _ _ _ _ _) | (exact partB _ _ _ _ _ _) | (simp [allocV, allocR, lenIs]; done) | (simp [lenIs]; done) | (simp [takeC, consO]; done) | (simp [takeC, consO]; split <;> simp_all; done) | (simp [setsO, bindS]; done) | (simp [resPart, partV, Kind.isAgg]; done) | (simp [resPart, partV, Kind.isAgg, getC]; done) | (simp [binV', binV, intBin, strBin]; done) | (simp [binV', binV, intBin]; split <;> simp_all; done) | (simp [boxV, V.known]; done) | (simp [loadV', loadV, partV, Kind.isAgg, partV', loadC]; done) | (simp [loadV', loadV, partV, Kind.isAgg, partV', loadC]; split <;> simp_all; done) | (simp [binV', binV, strBin]; split <;> simp_all; done) | (unfold boolV binV' binV; rfl) | (simp only [lenV', lenFits, lenS]; split <;> simp_all [lenV]; done) | (simp only [lenV', lenFits, lenL]; split <;> simp_all [lenV]; done)
theorem kev12_2 : ∀ (ti : Tab) (T n : Nat) (x y : List UInt8), binV' ti .add T (.str x) (.str y) n = if x.length + y.length ≤ 9223372036854775807 then some (.str (x ++ y), n) else none := by intros; first | rfl | (simp; done) | (rename_i e fs s b z; exact partA _ e fs s b z _) | (rename_i e fs s b z; exact partB _ e fs s b z) | (exact partA _ _ _ _ _ _ _) | (exact partB _ _ _ _ _ _) | (simp [allocV, allocR, lenIs]; done) | (simp [lenIs]; done) | (simp [takeC, consO]; done) | (simp [takeC, consO]; split <;> simp_all; done) | (simp [setsO, bindS]; done) | (simp [resPart, partV, Kind.isAgg]; done) | (simp [resPart, partV, Kind.isAgg, getC]; done) | (simp [binV', binV, intBin, strBin]; done) | (simp [binV', binV, intBin]; split <;> simp_all; done) | (simp [boxV, V.known]; done) | (simp [loadV', loadV, partV, Kind.isAgg, partV', loadC]; done) | (simp [loadV', loadV, partV, Kind.isAgg, partV', loadC]; split <;> simp_all; done) | (simp [binV', binV, strBin]; split <;> simp_all; done) | (unfold boolV binV' binV; rfl) | (simp only [lenV', lenFits, lenS]; split <;> simp_all [lenV]; done) | (simp only [lenV', lenFits, lenL]; split <;> simp_all [lenV]; done)
theorem kev12_3 : ∀ (ti : Tab) (T n : Nat) (x y : List UInt8), binV' ti .eql T (.str x) (.str y) n = some (.bool (decide (x = y)), n) := by intros; rfl
theorem kev12_4 : ∀ (ti : Tab) (T n : Nat) (x y : List UInt8), binV' ti .neq T (.str x) (.str y) n = some (.bool (!decide (x = y)), n) := by intros; rfl
theorem kev12_5 : ∀ (ti : Tab) (T n : Nat) (x y : List UInt8), binV' ti .lss T (.str x) (.str y) n = some (.bool (Op.bytesLess x y), n) := by intros; rfl
theorem kev12_6 : ∀ (ti : Tab) (T n : Nat) (x y : Bool), binV' ti .eql T (.bool x) (.bool y) n = boolV (ti T) (x == y) n := by intros; rfl
theorem kev12_7 : ∀ (ti : Tab) (T n : Nat) (x y : Bool), binV' ti .neq T (.bool x) (.bool y) n = boolV (ti T) (!(x == y)) n := by intros; rfl
theorem kev12_8 : ∀ (s b n : Nat) (z : List V) (x : Bool), boolV (some ⟨.bool, s, b, z⟩) x n = some (.bool x, n) := by intros; rfl
theorem kev12_9 : ∀ (b : Bool) (n : Nat), unV' .not (.bool b) n = some (.bool !b, n) := by intros; rfl
theorem kev12_10 : ∀ (k : IntKind) (x : Int) (n : Nat), unV' .neg (.int k x) n = some (.int k (k.wrap (0 - x)), n) := by intros; rfl
theorem kev12_11 : ∀ (ti : Tab) (T f : Nat), fieldOf ti T f = fieldOf' (ti T) f := by intros; rfl
theorem kev13_0 : ∀ (fs : List (Nat × TypeId)) (s b f : Nat) (z : List V), fieldOf' (some ⟨.struct fs, s, b, z⟩) f = nthF fs f := by intros; rfl
theorem kev13_1 : ∀ (x : Nat × TypeId) (l : List (Nat × TypeId)), nthF (x :: l) 0 = some x := by intros; rfl
theorem kev13_2 : ∀ (x : Nat × TypeId) (l : List (Nat × TypeId)) (i : Nat), nthF (x :: l) (i + 1) = nthF l i := by intros; rfl
theorem kev13_3 : ∀ (ti : Tab) (L i o n off : Nat) (e : List V) (fty : TypeId), fieldAddrV ti (.ptr L i o e) (some (off, fty)) n = fieldAddrV' (ti fty) L i (o + off) e n := by intros; rfl
theorem kev13_4 : ∀ (L i o n s b : Nat) (k : Kind) (z e : List V), fieldAddrV' (some ⟨k, s + 1, b, z⟩) L i o e n = some (.ptr L i o e, n) := by intros; rfl
theorem kev13_5 : ∀ (ti : Tab) (n off : Nat) (e : List V) (fty : TypeId), fieldV ti (.agg e) (some (off, fty)) n = fieldV' (ti fty) e off n := by intros; rfl
theorem kev13_6 : ∀ (n off : Nat) (e : List V) (inf : TInfo), fieldV' (some inf) e off n = partV' inf e off n := by intros; rfl
theorem kev13_7 : ∀ (vs : List V) (i n : Nat), extractV (.tup vs) i n = loadC vs i n := by intros; rfl
theorem kev13_8 : ∀ (ti : Tab) (T n : Nat) (s : List UInt8), lenV' ti T (.str s) n = lenS (ti T) s n := by intro ti T; intros; unfold lenV' lenFits; cases ti T with | none => rfl | some i => (obtain ⟨k, _, _, _⟩ := i; cases k <;> rfl)
theorem kev13_9 : ∀ (s b n : Nat) (z : List V) (x : List UInt8), lenS (some ⟨.str, s, b, z⟩) x n = some (.int .i64 (x.length : Int), n) := by intros; rfl
theorem kev13_10 : ∀ (ti : Tab) (T n L sz off : Nat) (es : List (List V)), lenV' ti T (.sl L sz off es) n = lenL (ti T) es.length n := by intro ti T; intros; unfold lenV' lenFits; cases ti T with | none => rfl | some i => (obtain ⟨k, _, _, _⟩ := i; cases k <;> rfl)
theorem kev13_11 : ∀ (ti : Tab) (T n sz : Nat), lenV' ti T (.nil sz) n = lenL (ti T) 0 n := by intro ti T; intros; unfold lenV' lenFits; cases ti T with | none => rfl | some i => (obtain ⟨k, _, _, _⟩ := i; cases k <;> rfl)
theorem kev14_0 : ∀ (e s b n m : Nat) (z : List V), lenL (some ⟨.slice e, s, b, z⟩) m n = some (.int .i64 (m : Int), n) := by intros; rfl
theorem kev14_1 : ∀ (l : List Operand) (f : Operand → V), (l.toArray).toList.map f = l.map f := by intros; rfl
theorem kev14_2 : ∀ (a : Operand) (l : List Operand) (f : Operand → V), List.map f (a :: l) = f a :: List.map f l := by intros; rfl
theorem kev14_3 : ∀ (f : Operand → V), List.map f [] = [] := by intros; rfl
theorem kev14_4 : ∀ (l : List V), l ++ [] = l := by intros; first | rfl | (simp; done) | (rename_i e fs s b z; exact partA _ e fs s b z _) | (rename_i e fs s b z; exact partB _ e fs s b z) | (exact partA _ _ _ _ _ _ _) | (exact partB _ _ _ _ _ _) | (simp [allocV, allocR, lenIs]; done) | (simp [lenIs]; done) | (simp [takeC, consO]; done) | (simp [takeC, consO]; split <;> simp_all; done) | (simp [setsO, bindS]; done) | (simp [resPart, partV, Kind.isAgg]; done) | (simp [resPart, partV, Kind.isAgg, getC]; done) | (simp [binV', binV, intBin, strBin]; done) | (simp [binV', binV, intBin]; split <;> simp_all; done) | (simp [boxV, V.known]; done) | (simp [loadV', loadV, partV, Kind.isAgg, partV', loadC]; done) | (simp [loadV', loadV, partV, Kind.isAgg, partV', loadC]; split <;> simp_all; done) | (simp [binV', binV, strBin]; split <;> simp_all; done) | (unfold boolV binV' binV; rfl) | (simp only [lenV', lenFits, lenS]; split <;> simp_all [lenV]; done) | (simp only [lenV', lenFits, lenL]; split <;> simp_all [lenV]; done)
theorem kev14_5 : ∀ (x : V) (l l' : List V), (x :: l) ++ l' = x :: (l ++ l') := by intros; rfl
theorem kev14_6 : ∀ (l : List V), [] ++ l = l := by intros; rfl
theorem kev14_7 : ∀ (ti : Tab) (t : List V), resVs ti t [] = some [] := by intros; rfl
theorem kev14_8 : ∀ (ti : Tab) (t : List V) (r : ResultVar) (rs : List ResultVar), resVs ti t (r :: rs) = resCons (resV ti t r) (resVs ti t rs) := by intros; rfl
theorem kev14_9 : ∀ (x : V) (xs : List V), resCons (some x) (some xs) = some (x :: xs) := by intros; rfl
theorem kev14_10 : ∀ (ti : Tab) (t : List V) (i : Tmp), resV ti t (.tmp i) = some (nth t i) := by intros; rfl
theorem kev14_11 : ∀ (ti : Tab) (t : List V) (p : Tmp) (T : TypeId), resV ti t (.cell p T) = resCell (ti T) (nth t p) := by intros; rfl
theorem kev15_0 : ∀ (L i o : Nat) (e : List V) (inf : TInfo), resCell (some inf) (.ptr L i o e) = resPart inf e o := by intros; rfl
theorem kev15_1 : ∀ (o : Nat) (e : List V) (fs : List (Nat × TypeId)) (s b : Nat) (z : List V), resPart ⟨.struct fs, s + 1, b, z⟩ e o = aggR1 (takeC (dropC e o) (s + 1)) := by intros; first | rfl | (simp; done) | (rename_i e fs s b z; exact partA _ e fs s b z _) | (rename_i e fs s b z; exact partB _ e fs s b z) | (exact partA _ _ _ _ _ _ _) | (exact partB _ _ _ _ _ _) | (simp [allocV, allocR, lenIs]; done) | (simp [lenIs]; done) | (simp [takeC, consO]; done) | (simp [takeC, consO]; split <;> simp_all; done) | (simp [setsO, bindS]; done) | (simp [resPart, partV, Kind.isAgg]; done) | (simp [resPart, partV, Kind.isAgg, getC]; done) | (simp [binV', binV, intBin, strBin]; done) | (simp [binV', binV, intBin]; split <;> simp_all; done) | (simp [boxV, V.known]; done) | (simp [loadV', loadV, partV, Kind.isAgg, partV', loadC]; done) | (simp [loadV', loadV, partV, Kind.isAgg, partV', loadC]; split <;> simp_all; done) | (simp [binV', binV, strBin]; split <;> simp_all; done) | (unfold boolV binV' binV; rfl) | (simp only [lenV', lenFits, lenS]; split <;> simp_all [lenV]; done) | (simp only [lenV', lenFits, lenL]; split <;> simp_all [lenV]; done)
theorem kev15_2 : ∀  (o : Nat) (e : List V) (s b : Nat) (z : List V), resPart ⟨.bool, s, b, z⟩ e o = getC e o := by intros; rfl
theorem kev15_3 : ∀ (k : IntKind) (o : Nat) (e : List V) (s b : Nat) (z : List V), resPart ⟨.int k, s, b, z⟩ e o = getC e o := by intros; rfl
theorem kev15_4 : ∀  (o : Nat) (e : List V) (s b : Nat) (z : List V), resPart ⟨.str, s, b, z⟩ e o = getC e o := by intros; rfl
theorem kev15_5 : ∀ (y : TypeId) (o : Nat) (e : List V) (s b : Nat) (z : List V), resPart ⟨.slice y, s, b, z⟩ e o = getC e o := by intros; rfl
theorem kev15_6 : ∀ (y : TypeId) (o : Nat) (e : List V) (s b : Nat) (z : List V), resPart ⟨.ptr y, s, b, z⟩ e o = getC e o := by intros; rfl
theorem kev15_7 : ∀  (o : Nat) (e : List V) (s b : Nat) (z : List V), resPart ⟨.other, s, b, z⟩ e o = getC e o := by intros; rfl
theorem kev15_8 : ∀ (x : V) (e : List V), getC (x :: e) 0 = some x := by intros; rfl
theorem kev15_9 : ∀ (x : V) (e : List V) (i : Nat), getC (x :: e) (i + 1) = getC e i := by intros; rfl
theorem kev15_10 : ∀ (x : V), packV [x] = x := by intros; rfl
theorem kev15_11 : packV [] = .tup [] := by intros; rfl
theorem kev16_0 : ∀ (x y : V) (l : List V), packV (x :: y :: l) = .tup (x :: y :: l) := by intros; rfl
theorem kev16_1 : ∀ (x : V) (l : List V), setAt l 0 [x] = setN l 0 x := by intros; rfl
theorem kev16_2 : ∀ (x : V) (l : List V) (i : Nat), setAt l (i + 1) [x] = setN l (i + 1) x := by intros; rfl
theorem kev16_3 : ∀ (x y : V) (l m : List V) (i : Nat), setAt l i (x :: y :: m) = setAt (setN l i x) (i + 1) (y :: m) := by intros; rfl
theorem kev16_4 : ∀ (l : List V) (i : Nat), setAt l i [] = l := by intros; rfl
theorem kev16_5 : ∀ (y : V) (l : List V) (x : V), setN (y :: l) 0 x = x :: l := by intros; rfl
theorem kev16_6 : ∀ (y : V) (l : List V) (i : Nat) (x : V), setN (y :: l) (i + 1) x = y :: setN l i x := by intros; rfl
theorem kput_0 : ∀ (t : List V) (d : Tmp) (x : V), putV t (some d) x = setN t d x := by intros; rfl
theorem kput_1 : ∀ (t : List V) (x : V), putV t none x = t := by intros; rfl
theorem kput_2 : ∀ (y : V) (l : List V) (x : V), setN (y :: l) 0 x = x :: l := by intros; rfl
theorem kput_3 : ∀ (y : V) (l : List V) (i : Nat) (x : V), setN (y :: l) (i + 1) x = y :: setN l i x := by intros; rfl
theorem kP : (∀ (t : List V) (d : Tmp) (x : V), putV t (some d) x = setN t d x) ∧ (∀ (t : List V) (x : V), putV t none x = t) ∧ (∀ (y : V) (l : List V) (x : V), setN (y :: l) 0 x = x :: l) ∧ (∀ (y : V) (l : List V) (i : Nat) (x : V), setN (y :: l) (i + 1) x = y :: setN l i x) := ⟨kput_0, kput_1, kput_2, kput_3⟩
theorem kE : (∀ (ti : Tab) (t : List V) (n : Nat) (ty : TypeId) (x : Operand), ev1 ti t n ty (.move x) = some (retype ti ty (opnd t x), n)) ∧ (∀ (ti : Tab) (t : List V) (n : Nat) (ty : TypeId) (x : Operand), ev1 ti t n ty (.assign x) = some (retype ti ty (opnd t x), n)) ∧ (∀ (ti : Tab) (t : List V) (n : Nat) (ty : TypeId) (c a b : Operand), ev1 ti t n ty (.pick c a b) = pickV (opnd t c) (opnd t a) (opnd t b) n) ∧ (∀ (ti : Tab) (t : List V) (n : Nat) (ty T : TypeId), ev1 ti t n ty (.alloc T) = allocV (ti T) n) ∧ (∀ (ti : Tab) (t : List V) (n : Nat) (ty T : TypeId) (x : Operand), ev1 ti t n ty (.box T x) = boxV (opnd t x) n) ∧ (∀ (ti : Tab) (t : List V) (n : Nat) (ty T : TypeId) (x : Operand), ev1 ti t n ty (.load T x) = loadV' (ti T) (opnd t x) n) ∧ (∀ (ti : Tab) (t : List V) (n : Nat) (ty : TypeId) (x : Operand), ev1 ti t n ty (.nilCheck x) = nilCheckV (opnd t x) n) ∧ (∀ (ti : Tab) (t : List V) (n : Nat) (ty : TypeId) (op : BinOp) (T T' : TypeId) (x y : Operand), ev1 ti t n ty (.binOp op T x y T') = binV' ti op T (opnd t x) (opnd t y) n) ∧ (∀ (ti : Tab) (t : List V) (n : Nat) (ty : TypeId) (op : UnOp) (T : TypeId) (x : Operand), ev1 ti t n ty (.unOp op T x) = unV' op (opnd t x) n) ∧ (∀ (ti : Tab) (t : List V) (n : Nat) (ty s d : TypeId) (x : Operand), ev1 ti t n ty (.convert s d x) = (convV ti s d (opnd t x)).map fun z => (z, n)) ∧ (∀ (ti : Tab) (t : List V) (n : Nat) (ty T : TypeId) (x : Operand) (f : Nat), ev1 ti t n ty (.fieldAddr T x f) = fieldAddrV ti (opnd t x) (fieldOf ti T f) n) ∧ (∀ (ti : Tab) (t : List V) (n : Nat) (ty T : TypeId) (x : Operand) (f : Nat), ev1 ti t n ty (.field T x f) = fieldV ti (opnd t x) (fieldOf ti T f) n) ∧ (∀ (ti : Tab) (t : List V) (n : Nat) (ty T : TypeId) (x i : Operand), ev1 ti t n ty (.indexAddr T x i) = (idxV ti T (opnd t x) (opnd t i)).map fun z => (z, n)) ∧ (∀ (ti : Tab) (t : List V) (n : Nat) (ty T : TypeId) (x i : Operand), ev1 ti t n ty (.index T x i) = (byteV ti T (opnd t x) (opnd t i)).map fun z => (z, n)) ∧ (∀ (ti : Tab) (t : List V) (n : Nat) (ty T : TypeId) (x : Operand) (lo hi : Option Operand), ev1 ti t n ty (.slice T x lo hi none) = (sliceV ti T (opnd t x) (lo.map (opnd t)) (hi.map (opnd t))).map fun z => (z, n)) ∧ (∀ (ti : Tab) (t : List V) (n : Nat) (ty : TypeId) (x : Operand) (i : Nat), ev1 ti t n ty (.extract x i) = extractV (opnd t x) i n) ∧ (∀ (ti : Tab) (t : List V) (n : Nat) (ty T : TypeId) (x : Operand), ev1 ti t n ty (.call ⟨.builtin .len, #[x], #[T]⟩) = lenV' ti T (opnd t x) n) ∧ (∀ (ti : Tab) (t : List V) (n : Nat) (ty : TypeId) (x y : Operand) (ts : Array TypeId), ev1 ti t n ty (.call ⟨.builtin .min, #[x, y], ts⟩) = (minV false (opnd t x) (opnd t y)).map fun z => (z, n)) ∧ (∀ (ti : Tab) (t : List V) (n : Nat) (ty : TypeId) (x y : Operand) (ts : Array TypeId), ev1 ti t n ty (.call ⟨.builtin .max, #[x, y], ts⟩) = (minV true (opnd t x) (opnd t y)).map fun z => (z, n)) ∧ (∀ (t : List V) (i : Nat), opnd t (.tmp i) = nth t i) ∧ (∀ (t : List V) (v : Value), opnd t (.const v) = constV v) ∧ (∀ (t : List V) (f : FuncId), opnd t (.func f) = .fn f []) ∧ (∀ (x : V) (l : List V), nth (x :: l) 0 = x) ∧ (∀ (x : V) (l : List V) (i : Nat), nth (x :: l) (i + 1) = nth l i) ∧ (∀ (k : IntKind) (n : Int), constV (.int k n) = .int k n) ∧ (∀ (b : Bool), constV (.bool b) = .bool b) ∧ (∀ (l : List UInt8), constV (.string ⟨l.toArray⟩) = .str l) ∧ (constV (.slice none 0 0) = .nil 0) ∧ (constV (.pointer none) = .nilP) ∧ (∀ (ti : Tab) (ty : TypeId), retype ti ty .any = .any) ∧ (∀ (ti : Tab) (ty : TypeId) (b : Bool), retype ti ty (.bool b) = .bool b) ∧ (∀ (ti : Tab) (ty : TypeId) (k : IntKind) (n : Int), retype ti ty (.int k n) = .int k n) ∧ (∀ (ti : Tab) (ty : TypeId) (s : List UInt8), retype ti ty (.str s) = .str s) ∧ (∀ (ti : Tab) (ty : TypeId) (L sz off : Nat) (es : List (List V)), retype ti ty (.sl L sz off es) = .sl L sz off es) ∧ (∀ (ti : Tab) (ty : TypeId), retype ti ty .nilP = .nilP) ∧ (∀ (ti : Tab) (ty L i o : Nat) (e : List V), retype ti ty (.ptr L i o e) = .ptr L i o e) ∧ (∀ (ti : Tab) (ty f : Nat) (e : List V), retype ti ty (.fn f e) = .fn f e) ∧ (∀ (ti : Tab) (ty : Nat) (e : List V), retype ti ty (.agg e) = .agg e) ∧ (∀ (ti : Tab) (ty : Nat) (e : List V), retype ti ty (.tup e) = .tup e) ∧ (∀ (ti : Tab) (ty sz : Nat), retype ti ty (.nil sz) = .nil ((esz ti ty).getD 0)) ∧ (∀ (ti : Tab) (ty : Nat), esz ti ty = esz' ti (ti ty)) ∧ (∀ (ti : Tab) (e a b : Nat) (z : List V), esz' ti (some ⟨.slice e, a, b, z⟩) = (ti e).map (·.size)) ∧ (∀ (a b : V) (n : Nat), pickV (.bool true) a b n = some (a, n)) ∧ (∀ (a b : V) (n : Nat), pickV (.bool false) a b n = some (b, n)) ∧ (∀ (i : TInfo) (n : Nat), allocV (some i) n = allocR (lenIs i.zero i.size) i.zero n) ∧ (∀ (x : V) (l : List V) (n : Nat), allocR true (x :: l) n = some (.ptr n 0 0 (x :: l), n + 1)) ∧ (lenIs [] 0 = true) ∧ (∀ (x : V) (l : List V) (n : Nat), lenIs (x :: l) (n + 1) = lenIs l n) ∧ (∀ (x : V) (l : List V) (n : Nat), dropC (x :: l) (n + 1) = dropC l n) ∧ (∀ (l : List V), dropC l 0 = l) ∧ (∀ (l : List V), takeC l 0 = some []) ∧ (∀ (x : V) (l : List V) (n : Nat), takeC (x :: l) (n + 1) = consO x (takeC l n)) ∧ (∀ (x : V) (l : List V), consO x (some l) = some (x :: l)) ∧ (∀ (l : List V) (n : Nat), aggR (some l) n = some (.agg l, n)) ∧ (∀ (l : List V), aggR1 (some l) = some (.agg l)) ∧ (∀ (i : TInfo) (L j o : Nat) (e : List V) (x : V), storeE (some i) (.ptr (L + 1) j o e) x = storeR (setsO e o (cellsV x) i.size) (L + 1) j) ∧ (∀ (e : List V) (L j : Nat), storeR (some e) L j = some (L, j, e)) ∧ (∀ (e : List V) (o : Nat), setsO e o [] 0 = some e) ∧ (∀ (e cs : List V) (o s : Nat) (x : V), setsO e o (x :: cs) (s + 1) = bindS (oneO x (setO e o x)) (o + 1) cs s) ∧ (∀ (e cs : List V) (o s : Nat), bindS (some e) o cs s = setsO e o cs s) ∧ (∀ (y x : V) (e : List V), setO (y :: e) 0 x = some (x :: e)) ∧ (∀ (y x : V) (e : List V) (o : Nat), setO (y :: e) (o + 1) x = consO y (setO e o x)) ∧ (∀ (y : Option (List V)) (b : Bool), oneO (.bool b) y = y) ∧ (∀ (y : Option (List V)) (k : IntKind) (b : Int), oneO (.int k b) y = y) ∧ (∀ (y : Option (List V)) (b : List UInt8), oneO (.str b) y = y) ∧ (∀ (y : Option (List V)) (b : Nat), oneO (.nil b) y = y) ∧ (∀ (y : Option (List V)) (L i o : Nat) (e : List V), oneO (.ptr L i o e) y = y) ∧ (∀ (y : Option (List V)) (L i o : Nat) (e : List (List V)), oneO (.sl L i o e) y = y) ∧ (∀ (y : Option (List V)) (f : Nat) (e : List V), oneO (.fn f e) y = y) ∧ (∀ (b : Bool) (n : Nat), boxV (.bool b) n = some (.ptr n 0 0 [.bool b], n + 1)) ∧ (∀ (b : Bool), cellsV (.bool b) = [.bool b]) ∧ (∀ (b : Bool), V.known (.bool b) = true) ∧ (∀ (k : IntKind) (m : Int) (n : Nat), boxV (.int k m) n = some (.ptr n 0 0 [.int k m], n + 1)) ∧ (∀ (k : IntKind) (m : Int), cellsV (.int k m) = [.int k m]) ∧ (∀ (k : IntKind) (m : Int), V.known (.int k m) = true) ∧ (∀ (s : List UInt8) (n : Nat), boxV (.str s) n = some (.ptr n 0 0 [.str s], n + 1)) ∧ (∀ (s : List UInt8), cellsV (.str s) = [.str s]) ∧ (∀ (s : List UInt8), V.known (.str s) = true) ∧ (∀ (L sz off : Nat) (es : List (List V)) (n : Nat), boxV (.sl L sz off es) n = some (.ptr n 0 0 [.sl L sz off es], n + 1)) ∧ (∀ (L sz off : Nat) (es : List (List V)), cellsV (.sl L sz off es) = [.sl L sz off es]) ∧ (∀ (L sz off : Nat) (es : List (List V)), V.known (.sl L sz off es) = true) ∧ (∀ (sz : Nat) (n : Nat), boxV (.nil sz) n = some (.ptr n 0 0 [.nil sz], n + 1)) ∧ (∀ (sz : Nat), cellsV (.nil sz) = [.nil sz]) ∧ (∀ (sz : Nat), V.known (.nil sz) = true) ∧ (∀ (L i o : Nat) (e : List V) (n : Nat), boxV (.ptr L i o e) n = some (.ptr n 0 0 [.ptr L i o e], n + 1)) ∧ (∀ (L i o : Nat) (e : List V), cellsV (.ptr L i o e) = [.ptr L i o e]) ∧ (∀ (L i o : Nat) (e : List V), V.known (.ptr L i o e) = true) ∧ (∀ (f : Nat) (e : List V) (n : Nat), boxV (.fn f e) n = some (.ptr n 0 0 [.fn f e], n + 1)) ∧ (∀ (f : Nat) (e : List V), cellsV (.fn f e) = [.fn f e]) ∧ (∀ (f : Nat) (e : List V), V.known (.fn f e) = true) ∧ (∀ (cs : List V) (n : Nat), boxV (.agg cs) n = some (.ptr n 0 0 cs, n + 1)) ∧ (∀ (cs : List V), cellsV (.agg cs) = cs) ∧ (∀ (cs : List V), V.known (.agg cs) = true) ∧ (∀ (b : Bool), V.one (.bool b) = true) ∧ (∀ (k : IntKind) (m : Int), V.one (.int k m) = true) ∧ (∀ (s : List UInt8), V.one (.str s) = true) ∧ (∀ (L sz off : Nat) (es : List (List V)), V.one (.sl L sz off es) = true) ∧ (∀ (sz : Nat), V.one (.nil sz) = true) ∧ (∀ (L i o : Nat) (e : List V), V.one (.ptr L i o e) = true) ∧ (∀ (f : Nat) (e : List V), V.one (.fn f e) = true) ∧ (∀ (L i o n : Nat) (e : List V) (fs : List (Nat × TypeId)) (s b : Nat) (z : List V), loadV' (some ⟨.struct fs, s + 1, b, z⟩) (.ptr L i o e) n = aggR (takeC (dropC e o) (s + 1)) n) ∧ (∀  (L i o n : Nat) (e : List V) (s b : Nat) (z : List V), loadV' (some ⟨.bool, s, b, z⟩) (.ptr L i o e) n = loadC e o n) ∧ (∀  (o n : Nat) (e : List V) (s b : Nat) (z : List V), partV' ⟨.bool, s, b, z⟩ e o n = loadC e o n) ∧ (∀ (k : IntKind) (L i o n : Nat) (e : List V) (s b : Nat) (z : List V), loadV' (some ⟨.int k, s, b, z⟩) (.ptr L i o e) n = loadC e o n) ∧ (∀ (k : IntKind) (o n : Nat) (e : List V) (s b : Nat) (z : List V), partV' ⟨.int k, s, b, z⟩ e o n = loadC e o n) ∧ (∀  (L i o n : Nat) (e : List V) (s b : Nat) (z : List V), loadV' (some ⟨.str, s, b, z⟩) (.ptr L i o e) n = loadC e o n) ∧ (∀  (o n : Nat) (e : List V) (s b : Nat) (z : List V), partV' ⟨.str, s, b, z⟩ e o n = loadC e o n) ∧ (∀ (y : TypeId) (L i o n : Nat) (e : List V) (s b : Nat) (z : List V), loadV' (some ⟨.slice y, s, b, z⟩) (.ptr L i o e) n = loadC e o n) ∧ (∀ (y : TypeId) (o n : Nat) (e : List V) (s b : Nat) (z : List V), partV' ⟨.slice y, s, b, z⟩ e o n = loadC e o n) ∧ (∀ (y : TypeId) (L i o n : Nat) (e : List V) (s b : Nat) (z : List V), loadV' (some ⟨.ptr y, s, b, z⟩) (.ptr L i o e) n = loadC e o n) ∧ (∀ (y : TypeId) (o n : Nat) (e : List V) (s b : Nat) (z : List V), partV' ⟨.ptr y, s, b, z⟩ e o n = loadC e o n) ∧ (∀  (L i o n : Nat) (e : List V) (s b : Nat) (z : List V), loadV' (some ⟨.other, s, b, z⟩) (.ptr L i o e) n = loadC e o n) ∧ (∀  (o n : Nat) (e : List V) (s b : Nat) (z : List V), partV' ⟨.other, s, b, z⟩ e o n = loadC e o n) ∧ (∀ (o n : Nat) (e : List V) (fs : List (Nat × TypeId)) (s b : Nat) (z : List V), partV' ⟨.struct fs, s + 1, b, z⟩ e o n = aggR (takeC (dropC e o) (s + 1)) n) ∧ (∀ (x : V) (e : List V) (n : Nat), loadC (x :: e) 0 n = some (x, n)) ∧ (∀ (x : V) (e : List V) (n i : Nat), loadC (x :: e) (i + 1) n = loadC e i n) ∧ (∀ (L i o n : Nat) (e : List V), nilCheckV (.ptr L i o e) n = some (.ptr L i o e, n)) ∧ (∀ (f n : Nat) (e : List V), nilCheckV (.fn f e) n = some (.fn f e, n)) ∧ (∀ (ti : Tab) (T n : Nat) (k : IntKind) (x y : Int), binV' ti .add T (.int k x) (.int k y) n = some (.int k (k.wrap (x + y)), n)) ∧ (∀ (ti : Tab) (T n : Nat) (k : IntKind) (x y : Int), binV' ti .sub T (.int k x) (.int k y) n = some (.int k (k.wrap (x - y)), n)) ∧ (∀ (ti : Tab) (T n : Nat) (k : IntKind) (x y : Int), binV' ti .mul T (.int k x) (.int k y) n = some (.int k (k.wrap (x * y)), n)) ∧ (∀ (ti : Tab) (T n : Nat) (k : IntKind) (x y : Int), binV' ti .eql T (.int k x) (.int k y) n = some (.bool (decide (x = y)), n)) ∧ (∀ (ti : Tab) (T n : Nat) (k : IntKind) (x y : Int), binV' ti .neq T (.int k x) (.int k y) n = some (.bool (!decide (x = y)), n)) ∧ (∀ (ti : Tab) (T n : Nat) (k : IntKind) (x y : Int), binV' ti .lss T (.int k x) (.int k y) n = some (.bool (decide (x < y)), n)) ∧ (∀ (ti : Tab) (T n : Nat) (k : IntKind) (x y : Int), binV' ti .leq T (.int k x) (.int k y) n = some (.bool (decide (x ≤ y)), n)) ∧ (∀ (ti : Tab) (T n : Nat) (k : IntKind) (x y : Int), binV' ti .gtr T (.int k x) (.int k y) n = some (.bool (decide (x > y)), n)) ∧ (∀ (ti : Tab) (T n : Nat) (k : IntKind) (x y : Int), binV' ti .geq T (.int k x) (.int k y) n = some (.bool (decide (x ≥ y)), n)) ∧ (∀ (ti : Tab) (T n : Nat) (k : IntKind) (x y : Int), binV' ti .quo T (.int k x) (.int k y) n = if y = 0 then none else some (.int k (k.wrap (x.tdiv y)), n)) ∧ (∀ (ti : Tab) (T n : Nat) (k : IntKind) (x y : Int), binV' ti .rem T (.int k x) (.int k y) n = if y = 0 then none else some (.int k (x.tmod y), n)) ∧ (∀ (ti : Tab) (T n : Nat) (k : IntKind) (x y : Int), binV' ti .and T (.int k x) (.int k y) n = some (.int k (k.wrap (BitVec.ofInt k.bits x &&& BitVec.ofInt k.bits y).toNat), n)) ∧ (∀ (ti : Tab) (T n : Nat) (k : IntKind) (x y : Int), binV' ti .or T (.int k x) (.int k y) n = some (.int k (k.wrap (BitVec.ofInt k.bits x ||| BitVec.ofInt k.bits y).toNat), n)) ∧ (∀ (ti : Tab) (T n : Nat) (k : IntKind) (x y : Int), binV' ti .xor T (.int k x) (.int k y) n = some (.int k (k.wrap (BitVec.ofInt k.bits x ^^^ BitVec.ofInt k.bits y).toNat), n)) ∧ (∀ (ti : Tab) (T n : Nat) (k k2 : IntKind) (x y : Int), binV' ti .shl T (.int k x) (.int k2 y) n = if y < 0 then none else some (.int k (k.wrap (x * 2 ^ min y.toNat k.bits)), n)) ∧ (∀ (ti : Tab) (T n : Nat) (k k2 : IntKind) (x y : Int), binV' ti .shr T (.int k x) (.int k2 y) n = if y < 0 then none else some (.int k (x.fdiv (2 ^ min y.toNat k.bits)), n)) ∧ (∀ (ti : Tab) (T n : Nat) (x y : List UInt8), binV' ti .add T (.str x) (.str y) n = if x.length + y.length ≤ 9223372036854775807 then some (.str (x ++ y), n) else none) ∧ (∀ (ti : Tab) (T n : Nat) (x y : List UInt8), binV' ti .eql T (.str x) (.str y) n = some (.bool (decide (x = y)), n)) ∧ (∀ (ti : Tab) (T n : Nat) (x y : List UInt8), binV' ti .neq T (.str x) (.str y) n = some (.bool (!decide (x = y)), n)) ∧ (∀ (ti : Tab) (T n : Nat) (x y : List UInt8), binV' ti .lss T (.str x) (.str y) n = some (.bool (Op.bytesLess x y), n)) ∧ (∀ (ti : Tab) (T n : Nat) (x y : Bool), binV' ti .eql T (.bool x) (.bool y) n = boolV (ti T) (x == y) n) ∧ (∀ (ti : Tab) (T n : Nat) (x y : Bool), binV' ti .neq T (.bool x) (.bool y) n = boolV (ti T) (!(x == y)) n) ∧ (∀ (s b n : Nat) (z : List V) (x : Bool), boolV (some ⟨.bool, s, b, z⟩) x n = some (.bool x, n)) ∧ (∀ (b : Bool) (n : Nat), unV' .not (.bool b) n = some (.bool !b, n)) ∧ (∀ (k : IntKind) (x : Int) (n : Nat), unV' .neg (.int k x) n = some (.int k (k.wrap (0 - x)), n)) ∧ (∀ (ti : Tab) (T f : Nat), fieldOf ti T f = fieldOf' (ti T) f) ∧ (∀ (fs : List (Nat × TypeId)) (s b f : Nat) (z : List V), fieldOf' (some ⟨.struct fs, s, b, z⟩) f = nthF fs f) ∧ (∀ (x : Nat × TypeId) (l : List (Nat × TypeId)), nthF (x :: l) 0 = some x) ∧ (∀ (x : Nat × TypeId) (l : List (Nat × TypeId)) (i : Nat), nthF (x :: l) (i + 1) = nthF l i) ∧ (∀ (ti : Tab) (L i o n off : Nat) (e : List V) (fty : TypeId), fieldAddrV ti (.ptr L i o e) (some (off, fty)) n = fieldAddrV' (ti fty) L i (o + off) e n) ∧ (∀ (L i o n s b : Nat) (k : Kind) (z e : List V), fieldAddrV' (some ⟨k, s + 1, b, z⟩) L i o e n = some (.ptr L i o e, n)) ∧ (∀ (ti : Tab) (n off : Nat) (e : List V) (fty : TypeId), fieldV ti (.agg e) (some (off, fty)) n = fieldV' (ti fty) e off n) ∧ (∀ (n off : Nat) (e : List V) (inf : TInfo), fieldV' (some inf) e off n = partV' inf e off n) ∧ (∀ (vs : List V) (i n : Nat), extractV (.tup vs) i n = loadC vs i n) ∧ (∀ (ti : Tab) (T n : Nat) (s : List UInt8), lenV' ti T (.str s) n = lenS (ti T) s n) ∧ (∀ (s b n : Nat) (z : List V) (x : List UInt8), lenS (some ⟨.str, s, b, z⟩) x n = some (.int .i64 (x.length : Int), n)) ∧ (∀ (ti : Tab) (T n L sz off : Nat) (es : List (List V)), lenV' ti T (.sl L sz off es) n = lenL (ti T) es.length n) ∧ (∀ (ti : Tab) (T n sz : Nat), lenV' ti T (.nil sz) n = lenL (ti T) 0 n) ∧ (∀ (e s b n m : Nat) (z : List V), lenL (some ⟨.slice e, s, b, z⟩) m n = some (.int .i64 (m : Int), n)) ∧ (∀ (l : List Operand) (f : Operand → V), (l.toArray).toList.map f = l.map f) ∧ (∀ (a : Operand) (l : List Operand) (f : Operand → V), List.map f (a :: l) = f a :: List.map f l) ∧ (∀ (f : Operand → V), List.map f [] = []) ∧ (∀ (l : List V), l ++ [] = l) ∧ (∀ (x : V) (l l' : List V), (x :: l) ++ l' = x :: (l ++ l')) ∧ (∀ (l : List V), [] ++ l = l) ∧ (∀ (ti : Tab) (t : List V), resVs ti t [] = some []) ∧ (∀ (ti : Tab) (t : List V) (r : ResultVar) (rs : List ResultVar), resVs ti t (r :: rs) = resCons (resV ti t r) (resVs ti t rs)) ∧ (∀ (x : V) (xs : List V), resCons (some x) (some xs) = some (x :: xs)) ∧ (∀ (ti : Tab) (t : List V) (i : Tmp), resV ti t (.tmp i) = some (nth t i)) ∧ (∀ (ti : Tab) (t : List V) (p : Tmp) (T : TypeId), resV ti t (.cell p T) = resCell (ti T) (nth t p)) ∧ (∀ (L i o : Nat) (e : List V) (inf : TInfo), resCell (some inf) (.ptr L i o e) = resPart inf e o) ∧ (∀ (o : Nat) (e : List V) (fs : List (Nat × TypeId)) (s b : Nat) (z : List V), resPart ⟨.struct fs, s + 1, b, z⟩ e o = aggR1 (takeC (dropC e o) (s + 1))) ∧ (∀  (o : Nat) (e : List V) (s b : Nat) (z : List V), resPart ⟨.bool, s, b, z⟩ e o = getC e o) ∧ (∀ (k : IntKind) (o : Nat) (e : List V) (s b : Nat) (z : List V), resPart ⟨.int k, s, b, z⟩ e o = getC e o) ∧ (∀  (o : Nat) (e : List V) (s b : Nat) (z : List V), resPart ⟨.str, s, b, z⟩ e o = getC e o) ∧ (∀ (y : TypeId) (o : Nat) (e : List V) (s b : Nat) (z : List V), resPart ⟨.slice y, s, b, z⟩ e o = getC e o) ∧ (∀ (y : TypeId) (o : Nat) (e : List V) (s b : Nat) (z : List V), resPart ⟨.ptr y, s, b, z⟩ e o = getC e o) ∧ (∀  (o : Nat) (e : List V) (s b : Nat) (z : List V), resPart ⟨.other, s, b, z⟩ e o = getC e o) ∧ (∀ (x : V) (e : List V), getC (x :: e) 0 = some x) ∧ (∀ (x : V) (e : List V) (i : Nat), getC (x :: e) (i + 1) = getC e i) ∧ (∀ (x : V), packV [x] = x) ∧ (packV [] = .tup []) ∧ (∀ (x y : V) (l : List V), packV (x :: y :: l) = .tup (x :: y :: l)) ∧ (∀ (x : V) (l : List V), setAt l 0 [x] = setN l 0 x) ∧ (∀ (x : V) (l : List V) (i : Nat), setAt l (i + 1) [x] = setN l (i + 1) x) ∧ (∀ (x y : V) (l m : List V) (i : Nat), setAt l i (x :: y :: m) = setAt (setN l i x) (i + 1) (y :: m)) ∧ (∀ (l : List V) (i : Nat), setAt l i [] = l) ∧ (∀ (y : V) (l : List V) (x : V), setN (y :: l) 0 x = x :: l) ∧ (∀ (y : V) (l : List V) (i : Nat) (x : V), setN (y :: l) (i + 1) x = y :: setN l i x) := ⟨kev1_0, kev1_1, kev1_2, kev1_3, kev1_4, kev1_5, kev1_6, kev1_7, kev1_8, kev1_9, kev1_10, kev1_11, kev2_0, kev2_1, kev2_2, kev2_3, kev2_4, kev2_5, kev2_6, kev2_7, kev2_8, kev2_9, kev2_10, kev2_11, kev3_0, kev3_1, kev3_2, kev3_3, kev3_4, kev3_5, kev3_6, kev3_7, kev3_8, kev3_9, kev3_10, kev3_11, kev4_0, kev4_1, kev4_2, kev4_3, kev4_4, kev4_5, kev4_6, kev4_7, kev4_8, kev4_9, kev4_10, kev4_11, kev5_0, kev5_1, kev5_2, kev5_3, kev5_4, kev5_5, kev5_6, kev5_7, kev5_8, kev5_9, kev5_10, kev5_11, kev6_0, kev6_1, kev6_2, kev6_3, kev6_4, kev6_5, kev6_6, kev6_7, kev6_8, kev6_9, kev6_10, kev6_11, kev7_0, kev7_1, kev7_2, kev7_3, kev7_4, kev7_5, kev7_6, kev7_7, kev7_8, kev7_9, kev7_10, kev7_11, kev8_0, kev8_1, kev8_2, kev8_3, kev8_4, kev8_5, kev8_6, kev8_7, kev8_8, kev8_9, kev8_10, kev8_11, kev9_0, kev9_1, kev9_2, kev9_3, kev9_4, kev9_5, kev9_6, kev9_7, kev9_8, kev9_9, kev9_10, kev9_11, kev10_0, kev10_1, kev10_2, kev10_3, kev10_4, kev10_5, kev10_6, kev10_7, kev10_8, kev10_9, kev10_10, kev10_11, kev11_0, kev11_1, kev11_2, kev11_3, kev11_4, kev11_5, kev11_6, kev11_7, kev11_8, kev11_9, kev11_10, kev11_11, kev12_0, kev12_1, kev12_2, kev12_3, kev12_4, kev12_5, kev12_6, kev12_7, kev12_8, kev12_9, kev12_10, kev12_11, kev13_0, kev13_1, kev13_2, kev13_3, kev13_4, kev13_5, kev13_6, kev13_7, kev13_8, kev13_9, kev13_10, kev13_11, kev14_0, kev14_1, kev14_2, kev14_3, kev14_4, kev14_5, kev14_6, kev14_7, kev14_8, kev14_9, kev14_10, kev14_11, kev15_0, kev15_1, kev15_2, kev15_3, kev15_4, kev15_5, kev15_6, kev15_7, kev15_8, kev15_9, kev15_10, kev15_11, kev16_0, kev16_1, kev16_2, kev16_3, kev16_4, kev16_5, kev16_6⟩
end Go.Proofs.YtliiphpbfambcaaGreatDoor.K

/- Entering, ending: as a walk uses them. -/
namespace Go.Proofs.YtliiphpbfambcaaGreatDoor.K
open Go Go.RowKit
set_option linter.unusedVariables false
set_option linter.unusedSimpArgs false

section
variable {P : Program} {ti : Tab} {t t' h : List V} {n : Nat} {Q : Exit → List V → List V → Nat → Prop} {ops : Array Oper}
theorem OkOps.done {y : Code} (hk : Ok P y t h n Q) : OkOps P ops [] t h n (thenQ (fun t h n => Ok P y t h n Q) Q) := OkOps.nil hk
theorem TOps.done {y : Code} {late : List Nat} (hk : Ok P y t h n Q) : TOps P ops late (thenQ (fun t h n => Ok P y t h n Q) Q) [] t h n := hk
theorem thenQ_ret {K : List V → List V → Nat → Prop} (hq : Q .ret t h n) : thenQ K Q .ret t h n := hq
theorem blockQ_ret {id : Nat} (hq : Q .ret t h n) : blockQ id Q .ret t h n := hq
theorem Weak.enter (hti : TabOk P ti) {f : FuncId} {fn : Func} {c : Code} {args t : List V} {r : V} (hf : P.funcs[f]? = some fn) (hb : fn.body = some c) (hz : V.labelsL args = [] ∨ ∀ L ∈ V.labelsL args, L = 0)
    (ht : args ++ List.replicate (fn.ntmps - args.length) .any = t) (hk : Ok P c t [] 1 (retQ ti fn fun x _ _ => V.erase x = r)) : Weak P f args r :=
  Weak.of (hz.elim (fun h => by rw [h]; simp) id) (OkCall.enter hti hf hb (ht ▸ hk))
theorem retQ.end {ti : Tab} {fn : Func} {Q : V → List V → Nat → Prop} {xs : List V} {x : V} (hx : resVs ti t fn.results.toList = some xs) (hp : packV xs = x) (hq : Q x h n) : retQ ti fn Q .ret t h n := ⟨.inr rfl, xs, hx, hp ▸ hq⟩
variable {h' : List V} {n' : Nat} {o : Oper} {l : List Oper}
theorem OkOps.storeE {T : TypeId} {p x : Operand} {L j : Nat} {e' : List V} (hti : TabOk P ti) (hg : o.guard = none) (ho : o.op = .store T p x) (hs : storeE (ti T) (opnd t p) (opnd t x) = some (L, j, e')) (hc : ∃ y l, cellsV (opnd t x) = y :: l) (hfree : L ∉ V.labelsL e')
    (ht : putV (V.updL L j e' t) o.dst .any = t') (hh : V.updL L j e' h = h') (hk : OkOps P ops l t' h' n Q) : OkOps P ops (o :: l) t h n Q := by
  obtain ⟨i, hi, hs'⟩ := storeE_ok hs hc
  exact OkOps.store hti hg ho hi hs' hfree ht hh hk
theorem TOps.storeE {T : TypeId} {p x : Operand} {L j : Nat} {e' : List V} (hti : TabOk P ti) (hg : o.guard = none) (ho : o.op = .store T p x) (hs : storeE (ti T) (opnd t p) (opnd t x) = some (L, j, e')) (hc : ∃ y l, cellsV (opnd t x) = y :: l) (hfree : L ∉ V.labelsL e')
    (ht : putV (V.updL L j e' t) o.dst .any = t') (hh : V.updL L j e' h = h') (hk : TOps P ops [] Q l t' h' n) : TOps P ops [] Q (o :: l) t h n := by
  obtain ⟨i, hi, hs'⟩ := storeE_ok hs hc
  exact TOps.store hti hg ho hi hs' hfree ht hh hk
theorem ev_idx {ty T : TypeId} {x ix : Operand} {L sz off j : Nat} {k : IntKind} {es : List (List V)} {e : List V} (hx : opnd t x = .sl L sz off es) (hi : opnd t ix = .int k (j : Int)) (he : es[j]? = some e) (hz : esz ti T = some e.length) :
    ev1 ti t n ty (.indexAddr T x ix) = some (.ptr L (off + j) 0 e, n) := by
  simp only [ev1, hx, hi, idxV, Int.natCast_nonneg, if_true, Int.toNat_natCast, he, hz, Option.map_some]
theorem ev_byte {ty T : TypeId} {x ix : Operand} {j : Nat} {k : IntKind} {s : List UInt8} {b : UInt8} {s1 b1 : Nat} {z : List V} (hx : opnd t x = .str s) (hi : opnd t ix = .int k (j : Int)) (he : s[j]? = some b) (hz : ti T = some ⟨.str, s1, b1, z⟩) :
    ev1 ti t n ty (.index T x ix) = some (.int .u8 (b.toNat : Int), n) := by
  simp only [ev1, hx, hi, byteV, hz, Int.natCast_nonneg, if_true, Int.toNat_natCast, he, Option.map_some]
theorem set_same {d : Nat} {x : V} (hb : nth t d = x) (hx : x ≠ .any) : setN t d x = t := by
  unfold setN
  rw [nth_eq, List.getD_eq_getElem?_getD] at hb
  cases hd : t[d]? with
  | none => rw [hd] at hb; exact absurd hb.symm hx
  | some y =>
    rw [hd] at hb
    obtain rfl : y = x := hb
    obtain ⟨hl, rfl⟩ := List.getElem?_eq_some_iff.1 hd
    exact List.set_getElem_self hl
theorem OkOps.split {d : Nat} {b : Bool} {t1 t2 : List V} (hb : nth t d = .bool b) (e1 : setN t d (.bool true) = t1) (e2 : setN t d (.bool false) = t2) (h1 : b = true → OkOps P ops l t1 h n Q) (h2 : b = false → OkOps P ops l t2 h n Q) : OkOps P ops l t h n Q := by
  have hs := set_same hb (by simp)
  cases b with
  | true => rw [← hs, e1]; exact h1 rfl
  | false => rw [← hs, e2]; exact h2 rfl
theorem SOps.split {Q : List V → Nat → Prop} {d : Nat} {b : Bool} {t1 t2 : List V} (hb : nth t d = .bool b) (e1 : setN t d (.bool true) = t1) (e2 : setN t d (.bool false) = t2) (h1 : b = true → SOps P ops l t1 n Q) (h2 : b = false → SOps P ops l t2 n Q) : SOps P ops l t n Q := by
  have hs := set_same hb (by simp)
  cases b with
  | true => rw [← hs, e1]; exact h1 rfl
  | false => rw [← hs, e2]; exact h2 rfl
theorem Weak.len {f : FuncId} {args : List V} {r : V} (i : Nat) {L sz off : Nat} {es : List (List V)} (hi : args[i]? = some (.sl L sz off es)) (hk : es.length ≤ maxLen → Weak P f args r) : Weak P f args r := by
  intro base σ w vs h1 h2 h3 hgw hm
  refine hk ?_ base σ w vs h1 h2 h3 hgw hm
  have hlt : i < vs.length := by have := (List.getElem?_eq_some_iff.1 hi).1; have := hm.1; omega
  have := hm.2 i _ _ hi (List.getElem?_eq_getElem hlt)
  generalize vs[i] = v at this
  cases this with
  | sl _ _ _ _ A cap u g1 g2 => omega
def leL : List V → List V → Prop
  | [], [] => True
  | x :: xs, y :: ys => V.le x y ∧ leL xs ys
  | _, _ => False
theorem leL_spec : ∀ {t t' : List V}, leL t t' → t.length = t'.length ∧ ∀ (i : Nat) x y, t[i]? = some x → t'[i]? = some y → V.le x y
  | [], [], _ => ⟨rfl, by simp⟩
  | [], _ :: _, h => h.elim
  | _ :: _, [], h => h.elim
  | a :: t, b :: t', h => by
    obtain ⟨h1, h2⟩ := leL_spec h.2
    refine ⟨by simp [h1], fun i x y hx hy => ?_⟩
    cases i with
    | zero =>
      obtain rfl := Option.some.inj hx
      obtain rfl := Option.some.inj hy
      exact h.1
    | succ i => exact h2 i x y hx hy
theorem le_any (x : V) : V.le x .any := .inr (.inl rfl)
theorem le_rfl' (x : V) : V.le x x := .inl rfl
theorem le_nil (L sz : Nat) : V.le (.nil sz) (.sl L sz 0 []) := .inr (.inr ⟨L, sz, rfl, rfl⟩)
theorem Ok.loopF {τ : Type} {c : Code} (F : τ → List V) (p : τ → Prop) (m : τ → Nat) (x : τ) (hle : leL t (F x)) (hp : p x)
    (round : ∀ x, p x → Ok P c (F x) h n (thenQ (fun t' h' n' => ∃ y, leL t' (F y) ∧ h' = h ∧ n' = n ∧ p y ∧ m y < m x) Q)) : Ok P (.loop c) t h n Q := by
  refine Ok.loop (fun x t' h' n' => leL t' (F x) ∧ h' = h ∧ n' = n ∧ p x) m x ⟨hle, rfl, rfl, hp⟩ ?_
  rintro x t' h' n' ⟨h1, rfl, rfl, h4⟩
  refine Ok.forget (leL_spec h1).1 (leL_spec h1).2 ((round x h4).mono ?_)
  intro e t2 h2 n2 hq
  cases e with
  | normal => obtain ⟨y, a, b, c, d, e⟩ := hq; exact ⟨y, ⟨a, b, c, d⟩, e⟩
  | exit id => exact hq
  | goto l => exact hq
  | ret => exact hq
  | panic ch => exact hq
  | outgrown => exact hq
theorem Ok.loopZ {τ : Type} {c : Code} (F : τ → List V) (p : τ → Prop) (m : τ → Nat) (x : τ) (hn : 1 ≤ n) (hle : leL t (F x)) (hp : p x)
    (round : ∀ x, p x → Ok P c (F x) h n (thenQ (fun t' h' _ => ∃ y, leL (V.renL (frz n) t') (F y) ∧ V.renL (frz n) h' = h ∧ p y ∧ m y < m x) Q)) : Ok P (.loop c) t h n Q := by
  intro base w0 hv σ a w g
  refine wp_loop_ghost (fun k a w => ∃ x t' σ, m x = k ∧ leL t' (F x) ∧ p x ∧ Good base w0 hv t' h n σ a w) (m x) ⟨x, t, σ, rfl, hle, hp, g⟩ ?_
  rintro k a w ⟨x, t', σ, rfl, h1, h4, g⟩
  have hf : Ok P c t' h n _ := Ok.forget (leL_spec h1).1 (leL_spec h1).2 (round x h4)
  refine wp_mono (hf base w0 hv σ a w g) ?_
  rintro e a' w' ⟨t2, h2, n2, σ', q, g'⟩
  cases e with
  | normal =>
    obtain ⟨y, a1, b1, c1, d1⟩ := q
    have g2 := g'.freeze n hn
    rw [b1] at g2
    exact ⟨m y, d1, y, _, _, rfl, a1, c1, g2⟩
  | exit id => exact ⟨t2, h2, n2, σ', q, g'⟩
  | goto l => exact ⟨t2, h2, n2, σ', q, g'⟩
  | ret => exact ⟨t2, h2, n2, σ', q, g'⟩
  | panic ch => exact ⟨t2, h2, n2, σ', q, g'⟩
  | outgrown => exact ⟨t2, h2, n2, σ', q, g'⟩
end
end Go.Proofs.YtliiphpbfambcaaGreatDoor.K

/- Arguments of a row, read as abstract values. Nothing here depends on the program. -/
namespace Go.Proofs.YtliiphpbfambcaaGreatDoor.K
open Go Go.RowKit
set_option linter.unusedVariables false
set_option linter.unusedSimpArgs false

def ShpF (S : TypeId → List V → Prop) : List (Nat × TypeId) → List V → Prop
  | [], xs => xs = []
  | (_, t) :: r, xs => ∃ a b, xs = a ++ b ∧ S t a ∧ ShpF S r b
def Shp (ti : Tab) (B : Nat) : Nat → TypeId → List V → Prop
  | 0, _, _ => False
  | n + 1, t, xs => match ti t with
    | some ⟨.bool, _, _, _⟩ => ∃ b, xs = [.bool b]
    | some ⟨.int k, _, _, _⟩ => ∃ m, xs = [.int k m] ∧ (Lit.int k m).wf = true
    | some ⟨.str, _, _, _⟩ => ∃ s : List UInt8, xs = [.str s] ∧ s.length ≤ B
    | some ⟨.slice e, _, _, _⟩ => ∃ es, xs = [.sl 0 (((ti e).map (·.size)).getD 0) 0 es] ∧ es.length * (((ti e).map (·.bytes)).getD 0) ≤ B ∧ ∀ c ∈ es, Shp ti B n e c
    | some ⟨.struct fs, _, _, _⟩ => ShpF (Shp ti B n) fs xs
    | _ => False
def fieldsOk (ti : Tab) : Nat → List (Nat × TypeId) → Nat → Bool
  | o, [], s => o == s
  | o, (off, t) :: r, s => off == o && (match ti t with | some i => fieldsOk ti (o + i.size) r s | none => false)
def dataT (ti : Tab) : Nat → TypeId → Bool
  | 0, _ => false
  | n + 1, t => match ti t with
    | some ⟨.bool, s, _, _⟩ => s == 1
    | some ⟨.int _, s, _, _⟩ => s == 1
    | some ⟨.str, s, _, _⟩ => s == 1
    | some ⟨.slice e, s, _, _⟩ => s == 1 && (match ti e with | some i => decide (0 < i.size) | none => false) && dataT ti n e
    | some ⟨.struct fs, s, _, _⟩ => fieldsOk ti 0 fs s && fs.all fun p => dataT ti n p.2
    | _ => false

section
variable {K : Nat} {H : Type} {enc : TypeId × Value → H} {P : Program} {W : World} {ti : Tab} {B : Nat} {base : Base}
theorem cellsOf_eq {t : TypeId} {i : TInfo} (h : TOk P t i) : P.cellsOf t = i.size := by
  obtain ⟨x, hx, hs, _⟩ := h.inf
  unfold Program.cellsOf
  rw [hx]
  simpa using hs
theorem bytesOf_eq {t : TypeId} {i : TInfo} (h : TOk P t i) : P.bytesOf t = i.bytes := by
  obtain ⟨x, hx, _, hb, _⟩ := h.inf
  unfold Program.bytesOf
  rw [hx]
  simpa using hb
theorem ms_one {x : V} {v : Value} (h : M base noSig W x v) : Ms base noSig W [x] [v] := by
  refine ⟨rfl, fun i y u hy hu => ?_⟩
  cases i with
  | zero =>
    obtain rfl := Option.some.inj hy
    obtain rfl := Option.some.inj hu
    exact h
  | succ i => simp at hy
theorem weightsAll_mem {e : TypeId} : ∀ {ds : List (DataW H)} {d : DataW H}, d ∈ ds → ∀ x ∈ d.weights P e, x ∈ DataW.weightsAll P e ds
  | [], _, h, _, _ => by cases h
  | d0 :: r, d, h, x, hx => by
    rcases List.mem_cons.1 h with rfl | h
    · exact List.mem_append_left _ hx
    · exact List.mem_append_right _ (weightsAll_mem h x hx)

theorem fields_M {S : TypeId → List V → Prop} (hti : TabOk P ti) {tr : TypeId → List Value → Option (DataW H × List MemPlace)} : ∀ (fs : List Field) (o s : Nat) (cs : List Value) (xs : List (DataW H × List MemPlace)),
    fieldsOk ti o (fs.map fun f => (f.offset, f.type)) s = true → cs.length = s → o ≤ s → (fs.mapM fun f => tr f.type ((cs.drop f.offset).take (P.cellsOf f.type))) = some xs →
    (∀ f ∈ fs, ∀ c d, tr f.type c = some d → (∀ x ∈ d.1.weights P f.type, x ≤ B) → ∃ ys, Ms base noSig W ys c ∧ S f.type ys) → (∀ x ∈ DataW.weightsEach P (fs.map (·.type)) (xs.map (·.1)), x ≤ B) →
    ∃ ys, Ms base noSig W ys (cs.drop o) ∧ ShpF S (fs.map fun f => (f.offset, f.type)) ys
  | [], o, s, cs, xs, hf, hl, ho, hm, hS, hw => by
    simp only [List.map_nil, fieldsOk, beq_iff_eq] at hf
    refine ⟨[], ?_, rfl⟩
    rw [List.drop_eq_nil_of_le (by omega)]
    exact ⟨rfl, by simp⟩
  | f :: fs, o, s, cs, xs, hf, hl, ho, hm, hS, hw => by
    simp only [List.map_cons, fieldsOk, Bool.and_eq_true, beq_iff_eq] at hf
    obtain ⟨hoff, hf⟩ := hf
    split at hf
    · rename_i i hi
      have hsz := cellsOf_eq (hti _ _ hi)
      rw [List.mapM_cons] at hm
      cases h1 : tr f.type ((cs.drop f.offset).take (P.cellsOf f.type)) with
      | none => simp [h1] at hm
      | some d =>
        cases h2 : fs.mapM (fun f => tr f.type ((cs.drop f.offset).take (P.cellsOf f.type))) with
        | none => simp [h1, h2] at hm
        | some ds =>
          obtain rfl : d :: ds = xs := by simpa [h1, h2] using hm
          simp only [List.map_cons, DataW.weightsEach, List.mem_append] at hw
          have hle : o + i.size ≤ s := fieldsOk_le _ hf
          obtain ⟨y1, hm1, hs1⟩ := hS f (List.mem_cons_self ..) _ _ h1 (fun x hx => hw x (.inl hx))
          obtain ⟨y2, hm2, hs2⟩ := fields_M hti fs (o + i.size) s cs ds hf hl hle h2 (fun g hg => hS g (List.mem_cons_of_mem _ hg)) (fun x hx => hw x (.inr hx))
          refine ⟨y1 ++ y2, ?_, y1, y2, rfl, hs1, hs2⟩
          have hsplit : cs.drop o = (cs.drop f.offset).take (P.cellsOf f.type) ++ cs.drop (o + i.size) := by
            rw [hoff, hsz, ← List.drop_drop, List.take_append_drop]
          rw [hsplit]
          exact hm1.append hm2
    · cases hf
where
  fieldsOk_le : ∀ {o : Nat} (fs : List (Nat × TypeId)) {s : Nat}, fieldsOk ti o fs s = true → o ≤ s
    | o, [], s, h => by simp only [fieldsOk, beq_iff_eq] at h; omega
    | o, (off, t) :: r, s, h => by
      simp only [fieldsOk, Bool.and_eq_true] at h
      obtain ⟨_, h⟩ := h
      split at h
      · have := fieldsOk_le r h; omega
      · cases h

theorem trod_M (hti : TabOk P ti) : ∀ (m : Nat) (t : TypeId), dataT ti m t = true → ∀ (n : Nat) (cs : List Value) (d : DataW H) (ps : List MemPlace), (∀ k, ¬ base.bad k) →
    DataW.trod enc P W 0 (fun _ => true) true n t cs = some (d, ps) → (∀ x ∈ d.weights P t, x ≤ B) → ∃ xs, Ms base noSig W xs cs ∧ Shp ti B m t xs := by
  intro m
  induction m with
  | zero => intro t h; simp [dataT] at h
  | succ m ih =>
    intro t hd n cs d ps hb h hw
    cases n with
    | zero => simp [DataW.trod] at h
    | succ n =>
      unfold DataW.trod at h
      simp only [dataT] at hd
      simp only [Shp]
      split at hd
      · rename_i a b z hi
        rw [und_bool (hti _ _ hi) rfl] at h
        split at h
        case h_1 b heq => exact ⟨[.bool b], ms_one (.bool b), b, rfl⟩
        all_goals first | (cases h; done) | (rename_i heq; cases heq; done)
      · rename_i k a b z hi
        rw [und_int (hti _ _ hi) rfl] at h
        split at h
        case h_2 k1 k2 q heq =>
          obtain rfl : k = k1 := by cases heq; rfl
          split at h
          · rename_i hc
            obtain ⟨rfl, hwf⟩ := hc
            exact ⟨[.int _ q], ms_one (.int _ q), q, rfl, hwf⟩
          · cases h
        all_goals first | (cases h; done) | (rename_i heq; cases heq; done)
      · rename_i a b z hi
        rw [und_str (hti _ _ hi) rfl] at h
        split at h
        case h_4 s heq =>
          split at h
          · rename_i hl
            refine ⟨[.str s.data.toList], ms_one (.str s.data.toList), s.data.toList, rfl, ?_⟩
            simp only [Option.some.injEq, Prod.mk.injEq] at h
            obtain ⟨rfl, _⟩ := h
            exact hw _ (by simp [DataW.weights])
          · cases h
        all_goals first | (cases h; done) | (rename_i heq; cases heq; done)
      · rename_i e a b z hi
        have hund := und_slice (hti _ _ hi) rfl
        rw [hund] at h
        simp only [Bool.and_eq_true] at hd
        obtain ⟨⟨_, hpos⟩, hde⟩ := hd
        split at hpos
        · rename_i i hie
          have hpos : 0 < i.size := by simpa using hpos
          have hsz := cellsOf_eq (hti _ _ hie)
          have hby := bytesOf_eq (hti _ _ hie)
          simp only [hie, Option.map_some, Option.getD_some]
          split at h
          case h_7 => exact ⟨[.sl 0 i.size 0 []], ms_one (.sl 0 i.size 0 [] none 0 (fun _ _ => undef) (Nat.le_refl _) (Nat.zero_le _) (by simp) (.inl ⟨rfl, rfl⟩) (by simp) (by simp)), [], rfl, by simp, by simp⟩
          case h_8 e1 ad len cap heq =>
            obtain rfl : e = e1 := by cases heq; rfl
            split at h
            · rename_i hc
              obtain ⟨elems, h1, h⟩ := Option.bind_eq_some_iff.1 h
              obtain ⟨rest, h2, h⟩ := Option.map_eq_some_iff.1 h
              simp only [Prod.mk.injEq] at h
              obtain ⟨rfl, _⟩ := h
              have hlen : elems.length = len := by have := mapM_some_length h1; simpa using this
              rw [show DataW.weights P t (DataW.slice (elems.map (·.1)) (rest.map (·.1))) = ((elems.map (·.1)).length + (rest.map (·.1)).length) * P.bytesOf e :: (DataW.weightsAll P e (elems.map (·.1)) ++ DataW.weightsAll P e (rest.map (·.1))) by simp [DataW.weights, hund]] at hw
              have hall : ∀ j, j < len → ∃ c xs, W.cells? 0 (ad.add (j * i.size)) i.size = some c ∧ Ms base noSig W xs c ∧ Shp ti B m e xs := by
                intro j hj
                have hj' := mapM_some_get h1 j j (by simp [hj])
                have hlt : j < elems.length := by omega
                rw [List.getElem?_eq_getElem hlt] at hj'
                obtain ⟨c, hc1, hc2⟩ := Option.bind_eq_some_iff.1 hj'
                rw [hsz] at hc1
                obtain ⟨xs, hx1, hx2⟩ := ih e hde n c (elems[j]).1 (elems[j]).2 hb hc2 (fun x hx => hw x (by
                  refine List.mem_cons_of_mem _ (List.mem_append_left _ (weightsAll_mem (List.mem_map.2 ⟨elems[j], List.getElem_mem hlt, rfl⟩) x hx))))
                exact ⟨c, xs, hc1, hx1, hx2⟩
              have hcs := fun (j : Fin len) => (hall j.1 j.2).choose_spec
              let C : Fin len → List Value := fun j => (hall j.1 j.2).choose
              have hC : ∀ j : Fin len, ∃ xs, W.cells? 0 (ad.add (j.1 * i.size)) i.size = some (C j) ∧ Ms base noSig W xs (C j) ∧ Shp ti B m e xs := hcs
              let X : Fin len → List V := fun j => (hC j).choose
              have hX : ∀ j : Fin len, W.cells? 0 (ad.add (j.1 * i.size)) i.size = some (C j) ∧ Ms base noSig W (X j) (C j) ∧ Shp ti B m e (X j) := fun j => (hC j).choose_spec
              have hcells : ∀ j : Fin len, (C j).length = i.size ∧ ∀ c, c < i.size → W.cell? ((ad.add (j.1 * i.size)).add c) = (C j)[c]? := fun j => (World.cells?_some (hX j).1).2
              have hXl : ∀ j : Fin len, (X j).length = i.size := fun j => (hX j).2.1.1.trans (hcells j).1
              have hget : ∀ (j : Nat) e', (List.ofFn X)[j]? = some e' → ∃ hj : j < len, e' = X ⟨j, hj⟩ := by
                intro j e' he
                rw [List.getElem?_ofFn] at he
                split at he
                · rename_i hj; exact ⟨hj, (Option.some.inj he).symm⟩
                · cases he
              refine ⟨[.sl 0 i.size 0 (List.ofFn X)], ms_one ?_, List.ofFn X, rfl, ?_, ?_⟩
              · have hl : (List.ofFn X).length = len := by simp
                have hm : M base noSig W (.sl 0 i.size 0 (List.ofFn X)) (.slice (some ad) (List.ofFn X).length cap) := by
                  refine .sl 0 i.size 0 (List.ofFn X) (some ad) cap (fun j c => if hj : j < len then ((C ⟨j, hj⟩)[c]?).getD undef else undef) (by omega) hc.2.2 ?_ ?_ ?_ ?_
                  · intro e' he
                    obtain ⟨j, hj⟩ := List.mem_iff_getElem?.1 he
                    obtain ⟨hj', rfl⟩ := hget j e' hj
                    exact hXl _
                  · by_cases h0 : len = 0
                    · exact .inl ⟨rfl, List.eq_nil_of_length_eq_zero (by omega)⟩
                    · have hlt : 0 < len := by omega
                      have hblk := World.cells?_block (hX ⟨0, hlt⟩).1 hpos
                      rw [add_blk] at hblk
                      exact .inr (.inr ⟨ad, rfl, .inl ⟨rfl, hblk, fun _ _ _ _ h => by simp [noSig] at h, hb _⟩⟩)
                  · intro ad' hA j e' c x hj hx
                    obtain rfl := Option.some.inj hA
                    obtain ⟨hj', rfl⟩ := hget j e' hj
                    have hc' : c < i.size := by have := (List.getElem?_eq_some_iff.1 hx).1; rw [hXl] at this; exact this
                    have hcc := (hcells ⟨j, hj'⟩).2 c hc'
                    rw [add_add'] at hcc
                    rw [hcc, dif_pos hj', List.getElem?_eq_getElem (by rw [(hcells ⟨j, hj'⟩).1]; exact hc')]
                    rfl
                  · intro j e' c x hj hx
                    obtain ⟨hj', rfl⟩ := hget j e' hj
                    have hc' : c < i.size := by have := (List.getElem?_eq_some_iff.1 hx).1; rw [hXl] at this; exact this
                    rw [dif_pos hj']
                    have hlt : c < (C ⟨j, hj'⟩).length := by rw [(hcells ⟨j, hj'⟩).1]; exact hc'
                    rw [List.getElem?_eq_getElem hlt]
                    exact (hX ⟨j, hj'⟩).2.1.2 c x _ hx (List.getElem?_eq_getElem hlt)
                rw [hl] at hm
                exact hm
              · have := hw _ (List.mem_cons_self ..)
                rw [hby] at this
                refine Nat.le_trans ?_ this
                simp only [List.length_ofFn, List.length_map, hlen]
                exact Nat.mul_le_mul_right _ (by omega)
              · intro c hc'
                obtain ⟨j, hj⟩ := List.mem_iff_getElem?.1 hc'
                obtain ⟨hj', rfl⟩ := hget j c hj
                exact (hX ⟨j, hj'⟩).2.2
            · cases h
          all_goals first | (cases h; done) | (rename_i heq; cases heq; done)
        · cases hpos
      · rename_i fs s b z hi
        simp only [Bool.and_eq_true, List.all_eq_true] at hd
        obtain ⟨dsc, hund, hfit, _⟩ := (hti _ _ hi).und
        have hsz := cellsOf_eq (hti _ _ hi)
        cases dsc with
        | struct fields =>
          have hfs : fields.toList.map (fun f => (f.offset, f.type)) = fs := hfit
          rw [hund] at h
          have key : (if cs.length = P.cellsOf t then (fields.toList.mapM fun f => DataW.trod enc P W 0 (fun _ => true) true n f.type ((cs.drop f.offset).take (P.cellsOf f.type))).map fun xs => (DataW.agg (xs.map (·.1)), xs.flatMap (·.2)) else none) = some (d, ps) := by
            split at h
            case h_9 f1 heq =>
              obtain rfl : fields = f1 := by cases heq; rfl
              exact h
            all_goals first | (cases h; done) | (rename_i heq; cases heq; done) | (exfalso; simp_all; done)
          split at key
          · rename_i hl
            obtain ⟨xs, h1, h2⟩ := Option.map_eq_some_iff.1 key
            simp only [Prod.mk.injEq] at h2
            obtain ⟨rfl, _⟩ := h2
            rw [show DataW.weights P t (DataW.agg (xs.map (·.1))) = DataW.weightsEach P (fields.toList.map (·.type)) (xs.map (·.1)) by simp [DataW.weights, hund]] at hw
            have := fields_M (S := Shp ti B m) (base := base) (W := W) (B := B) hti fields.toList 0 s cs xs (by rw [hfs]; exact hd.1) (by rw [hl]; exact hsz) (Nat.zero_le _) h1
              (fun f hf c dd hc hw' => ih f.type (hd.2 (f.offset, f.type) (by rw [← hfs]; exact List.mem_map.2 ⟨f, hf, rfl⟩)) n c dd.1 dd.2 hb hc hw') hw
            rw [List.drop_zero, hfs] at this
            exact this
          · cases key
        | _ => exact hfit.elim
      · cases hd
theorem trod_spare (hti : TabOk P ti) : ∀ (m : Nat) (t : TypeId), dataT ti m t = true → ∀ (n : Nat) (cs : List Value) (x : DataW H × List MemPlace),
    DataW.trod enc P W 0 (fun _ => true) true n t cs = some x → DataW.trod enc P W 0 (fun b => decide (b < K)) true n t cs = some x ∨ W.heap.size ≠ K := by
  intro m
  by_cases hK : W.heap.size = K
  case neg => exact fun _ _ _ _ _ _ => .inr hK
  subst hK
  have main : ∀ (m : Nat) (t : TypeId), dataT ti m t = true → ∀ (n : Nat) (cs : List Value) (x : DataW H × List MemPlace),
      DataW.trod enc P W 0 (fun _ => true) true n t cs = some x → DataW.trod enc P W 0 (fun b => decide (b < W.heap.size)) true n t cs = some x := by
    intro m
    induction m with
    | zero => intro t h; simp [dataT] at h
    | succ m ih =>
      intro t hd n cs x h
      cases n with
      | zero => simp [DataW.trod] at h
      | succ n =>
        simp only [dataT] at hd
        unfold DataW.trod at h ⊢
        split at hd
        · rename_i a b z hi
          rw [und_bool (hti _ _ hi) rfl] at h ⊢
          split at h
          case h_1 b heq => exact h
          all_goals first | (cases h; done) | (rename_i heq; cases heq; done)
        · rename_i k a b z hi
          rw [und_int (hti _ _ hi) rfl] at h ⊢
          split at h
          case h_2 k1 k2 q heq => obtain rfl : k = k1 := by cases heq; rfl
                                  exact h
          all_goals first | (cases h; done) | (rename_i heq; cases heq; done)
        · rename_i a b z hi
          rw [und_str (hti _ _ hi) rfl] at h ⊢
          split at h
          case h_4 s heq => exact h
          all_goals first | (cases h; done) | (rename_i heq; cases heq; done)
        · rename_i e a b z hi
          have hund := und_slice (hti _ _ hi) rfl
          rw [hund] at h ⊢
          simp only [Bool.and_eq_true] at hd
          obtain ⟨⟨_, hpos⟩, hde⟩ := hd
          split at hpos
          · rename_i i hie
            have hpos : 0 < i.size := by simpa using hpos
            have hsz := cellsOf_eq (hti _ _ hie)
            split at h
            case h_7 => exact h
            case h_8 e1 ad len cap heq =>
              obtain rfl : e = e1 := by cases heq; rfl
              split at h
              · rename_i hc
                obtain ⟨elems, h1, h⟩ := Option.bind_eq_some_iff.1 h
                obtain ⟨rest, h2, h⟩ := Option.map_eq_some_iff.1 h
                rw [if_pos rfl] at h2
                have hel : ∀ j y, ((W.cells? 0 (ad.add (j * P.cellsOf e)) (P.cellsOf e)).bind (DataW.trod enc P W 0 (fun _ => true) true n e)) = some y →
                    ((W.cells? 0 (ad.add (j * P.cellsOf e)) (P.cellsOf e)).bind (DataW.trod enc P W 0 (fun b => decide (b < W.heap.size)) true n e)) = some y ∧ ad.block < W.heap.size := by
                  intro j y hy
                  obtain ⟨c, hc1, hc2⟩ := Option.bind_eq_some_iff.1 hy
                  refine ⟨Option.bind_eq_some_iff.2 ⟨c, hc1, ih e hde n c y hc2⟩, ?_⟩
                  have := World.cells?_block hc1 (by rw [hsz]; exact hpos)
                  rwa [add_blk] at this
                have h1' := mapM_carry h1 (g := fun j => (W.cells? 0 (ad.add (j * P.cellsOf e)) (P.cellsOf e)).bind (DataW.trod enc P W 0 (fun b => decide (b < W.heap.size)) true n e)) (fun j y _ _ hy => (hel j y hy).1)
                have h2' := mapM_carry h2 (g := fun j => (W.cells? 0 (ad.add ((len + j) * P.cellsOf e)) (P.cellsOf e)).bind (DataW.trod enc P W 0 (fun b => decide (b < W.heap.size)) true n e)) (fun j y _ _ hy => (hel (len + j) y hy).1)
                show (if 0 ≤ ad.block ∧ len ≤ cap ∧ cap ≤ maxLen then _ else none) = some x
                rw [if_pos hc]
                refine Option.bind_eq_some_iff.2 ⟨elems, h1', Option.map_eq_some_iff.2 ⟨rest, ?_, h⟩⟩
                by_cases hb : ad.block < W.heap.size
                · rw [if_pos (by simpa using hb)]
                  exact h2'
                · rw [if_neg (by simpa using hb)]
                  cases rest with
                  | nil => rfl
                  | cons y ys =>
                    exfalso
                    have hl := mapM_some_length h2
                    have hlt : 0 < (List.range (cap - len)).length := by rw [← hl]; simp
                    have h0 := mapM_some_get h2 0 _ (List.getElem?_eq_getElem hlt)
                    exact hb (hel _ y h0).2
              · cases h
            all_goals first | (cases h; done) | (rename_i heq; cases heq; done)
          · cases hpos
        · rename_i fs s b z hi
          simp only [Bool.and_eq_true, List.all_eq_true] at hd
          obtain ⟨dsc, hund, hfit, _⟩ := (hti _ _ hi).und
          cases dsc with
          | struct fields =>
            have hfs : fields.toList.map (fun f => (f.offset, f.type)) = fs := hfit
            rw [hund] at h ⊢
            have key : (if cs.length = P.cellsOf t then (fields.toList.mapM fun f => DataW.trod enc P W 0 (fun _ => true) true n f.type ((cs.drop f.offset).take (P.cellsOf f.type))).map fun xs => (DataW.agg (xs.map (·.1)), xs.flatMap (·.2)) else none) = some x := by
              split at h
              case h_9 f1 heq =>
                obtain rfl : fields = f1 := by cases heq; rfl
                exact h
              all_goals first | (cases h; done) | (rename_i heq; cases heq; done) | (exfalso; simp_all; done)
            split at key
            · rename_i hl
              obtain ⟨xs, h1, h2⟩ := Option.map_eq_some_iff.1 key
              have h1' := mapM_carry h1 (g := fun f => DataW.trod enc P W 0 (fun b => decide (b < W.heap.size)) true n f.type ((cs.drop f.offset).take (P.cellsOf f.type)))
                (fun f y hf _ hy => ih f.type (hd.2 (f.offset, f.type) (by rw [← hfs]; exact List.mem_map.2 ⟨f, hf, rfl⟩)) n _ y hy)
              split
              case h_9 f1 heq =>
                obtain rfl : fields = f1 := by cases heq; rfl
                rw [if_pos hl]
                exact Option.map_eq_some_iff.2 ⟨xs, h1', h2⟩
              all_goals first | (rename_i heq; cases heq; done) | (exfalso; simp_all; done)
            · cases key
          | _ => exact hfit.elim
        · cases hd
  exact fun t hd n cs x h => .inl (main m t hd n cs x h)
theorem trod_after (hti : TabOk P ti) {W W' : World} (bel : Below W.heap.size W W') (m : Nat) {t : TypeId} (hd : dataT ti m t = true) {v : Value} {d : DataW H} {ps : List MemPlace} (h : DataW.Trod enc P W 0 (fun _ => true) true t v d ps) : DataW.Trod enc P W' 0 (fun b => decide (b < W.heap.size)) true t v d ps := by
  obtain ⟨n, hn0⟩ := h
  have hn := (trod_spare (K := W.heap.size) hti m t hd n _ _ hn0).resolve_right (fun h => h rfl)
  refine ⟨n, DataW.trod_carry n t _ _ hn fun p hp => ?_⟩
  have hlt := DataW.trod_lt n t _ _ hn p hp
  cases p with
  | cell b off => exact cell_same (a := ⟨b, off, none⟩) (bel.block b hlt)
  | map b => exact bel.block b hlt
end
end Go.Proofs.YtliiphpbfambcaaGreatDoor.K

/- The types that the functions of this claim use, and that the program's table says so. -/
namespace Go.Proofs.YtliiphpbfambcaaGreatDoor.K
open Go Go.RowKit
set_option linter.unusedVariables false
set_option linter.unusedSimpArgs false

def infB (P : Program) (n : TypeId) (i : TInfo) : Bool :=
  match P.info? n with
  | some x => x.size == i.size && x.bytes == i.bytes && (match x.zero with | some z => zerosOk i.zero z.cells.toList | none => i.zero.isEmpty)
  | none => false
theorem infB_ok {P : Program} {n : TypeId} {i : TInfo} (h : infB P n i = true) : ∃ x, P.info? n = some x ∧ x.size = i.size ∧ x.bytes = i.bytes ∧ (i.zero ≠ [] → ∃ z, x.zero = some z ∧ zerosOk i.zero z.cells.toList = true) := by
  unfold infB at h
  split at h
  · rename_i x hx
    simp only [Bool.and_eq_true, beq_iff_eq] at h
    refine ⟨x, hx, h.1.1, h.1.2, fun hz => ?_⟩
    split at h
    · rename_i z hz'
      exact ⟨z, hz', h.2⟩
    · exact absurd (by simpa using h.2) hz
  · cases h

def ty2 : TInfo := ⟨.int .i64, 1, 8, [.int .i64 0]⟩
def ty3 : TInfo := ⟨.int .i64, 1, 8, [.int .i64 0]⟩
def ty4 : TInfo := ⟨.bool, 1, 1, [.bool false]⟩
def ty5 : TInfo := ⟨.int .u8, 1, 1, [.int .u8 0]⟩
def ty6 : TInfo := ⟨.int .u8, 1, 1, [.int .u8 0]⟩
def ty8 : TInfo := ⟨.struct [(0, 2), (1, 3), (2, 4), (3, 6)], 4, 24, [.int .i64 0, .int .i64 0, .bool false, .int .u8 0]⟩
def ty9 : TInfo := ⟨.str, 1, 16, [.str []]⟩
def ty10 : TInfo := ⟨.str, 1, 16, [.str []]⟩
def ty11 : TInfo := ⟨.str, 1, 16, [.str []]⟩
def ty12 : TInfo := ⟨.int .u64, 1, 8, [.int .u64 0]⟩
def ty14 : TInfo := ⟨.struct [(0, 9), (1, 12)], 2, 24, [.str [], .int .u64 0]⟩
def ty15 : TInfo := ⟨.ptr 362, 1, 8, [.nilP]⟩
def ty16 : TInfo := ⟨.ptr 365, 1, 8, [.nilP]⟩
def ty17 : TInfo := ⟨.ptr 372, 1, 8, [.nilP]⟩
def ty19 : TInfo := ⟨.struct [(0, 17)], 1, 8, [.nilP]⟩
def ty21 : TInfo := ⟨.int .i32, 1, 4, [.int .i32 0]⟩
def ty22 : TInfo := ⟨.slice 5, 1, 24, [.nil 1]⟩
def ty25 : TInfo := ⟨.slice 29, 1, 24, [.nil 4]⟩
def ty29 : TInfo := ⟨.struct [(0, 3), (1, 3), (2, 3), (3, 9)], 4, 40, [.int .i64 0, .int .i64 0, .int .i64 0, .str []]⟩
def ty31 : TInfo := ⟨.slice 9, 1, 24, [.nil 1]⟩
def ty39 : TInfo := ⟨.slice 59, 1, 24, [.nil 13]⟩
def ty40 : TInfo := ⟨.slice 117, 1, 24, [.nil 9]⟩
def ty41 : TInfo := ⟨.slice 136, 1, 24, [.nil 2]⟩
def ty43 : TInfo := ⟨.struct [(0, 39), (1, 40), (2, 41), (3, 3)], 4, 80, [.nil 13, .nil 9, .nil 2, .int .i64 0]⟩
def ty44 : TInfo := ⟨.slice 3, 1, 24, [.nil 1]⟩
def ty46 : TInfo := ⟨.struct [(0, 43), (4, 44)], 5, 104, [.nil 13, .nil 9, .nil 2, .int .i64 0, .nil 1]⟩
def ty51 : TInfo := ⟨.slice 146, 1, 24, [.nil 7]⟩
def ty53 : TInfo := ⟨.struct [(0, 3), (1, 3), (2, 51), (3, 44)], 4, 64, [.int .i64 0, .int .i64 0, .nil 7, .nil 1]⟩
def ty55 : TInfo := ⟨.struct [(0, 53), (4, 9), (5, 3)], 6, 88, [.int .i64 0, .int .i64 0, .nil 7, .nil 1, .str [], .int .i64 0]⟩
def ty57 : TInfo := ⟨.struct [(0, 9), (1, 9), (2, 4), (3, 4), (4, 3), (5, 44)], 6, 72, [.str [], .str [], .bool false, .bool false, .int .i64 0, .nil 1]⟩
def ty59 : TInfo := ⟨.struct [(0, 55), (6, 57), (12, 4)], 13, 168, [.int .i64 0, .int .i64 0, .nil 7, .nil 1, .str [], .int .i64 0, .str [], .str [], .bool false, .bool false, .int .i64 0, .nil 1, .bool false]⟩
def ty61 : TInfo := ⟨.ptr 82, 1, 8, [.nilP]⟩
def ty82 : TInfo := ⟨.struct [(0, 22), (1, 3), (2, 3)], 3, 40, [.nil 1, .int .i64 0, .int .i64 0]⟩
def ty88 : TInfo := ⟨.ptr 90, 1, 8, [.nilP]⟩
def ty90 : TInfo := ⟨.struct [(0, 88), (1, 22)], 2, 32, [.nilP, .nil 1]⟩
def ty107 : TInfo := ⟨.int .u64, 1, 8, [.int .u64 0]⟩
def ty112 : TInfo := ⟨.ptr 5, 1, 8, [.nilP]⟩
def ty115 : TInfo := ⟨.struct [(0, 3), (1, 31), (2, 3), (3, 3)], 4, 48, [.int .i64 0, .nil 1, .int .i64 0, .int .i64 0]⟩
def ty117 : TInfo := ⟨.struct [(0, 3), (1, 115), (5, 3), (6, 31), (7, 4), (8, 4)], 9, 96, [.int .i64 0, .int .i64 0, .nil 1, .int .i64 0, .int .i64 0, .int .i64 0, .nil 1, .bool false, .bool false]⟩
def ty132 : TInfo := ⟨.struct [(0, 3), (1, 3), (2, 3), (3, 9)], 4, 40, [.int .i64 0, .int .i64 0, .int .i64 0, .str []]⟩
def ty136 : TInfo := ⟨.struct [(0, 3), (1, 9)], 2, 24, [.int .i64 0, .str []]⟩
def ty143 : TInfo := ⟨.struct [(0, 3), (1, 3)], 2, 16, [.int .i64 0, .int .i64 0]⟩
def ty144 : TInfo := ⟨.slice 149, 1, 24, [.nil 4]⟩
def ty146 : TInfo := ⟨.struct [(0, 3), (1, 9), (2, 143), (4, 3), (5, 144), (6, 44)], 7, 96, [.int .i64 0, .str [], .int .i64 0, .int .i64 0, .int .i64 0, .nil 4, .nil 1]⟩
def ty147 : TInfo := ⟨.slice 195, 1, 24, [.nil 3]⟩
def ty149 : TInfo := ⟨.struct [(0, 3), (1, 3), (2, 147), (3, 9)], 4, 56, [.int .i64 0, .int .i64 0, .nil 3, .str []]⟩
def ty167 : TInfo := ⟨.slice 206, 1, 24, [.nil 2]⟩
def ty171 : TInfo := ⟨.slice 175, 1, 24, [.nil 5]⟩
def ty175 : TInfo := ⟨.struct [(0, 3), (1, 3), (2, 3), (3, 3), (4, 9)], 5, 48, [.int .i64 0, .int .i64 0, .int .i64 0, .int .i64 0, .str []]⟩
def ty182 : TInfo := ⟨.ptr 43, 1, 8, [.nilP]⟩
def ty188 : TInfo := ⟨.ptr 190, 1, 8, [.nilP]⟩
def ty190 : TInfo := ⟨.struct [(0, 9), (1, 3), (2, 4)], 3, 32, [.str [], .int .i64 0, .bool false]⟩
def ty195 : TInfo := ⟨.struct [(0, 3), (1, 143)], 3, 24, [.int .i64 0, .int .i64 0, .int .i64 0]⟩
def ty206 : TInfo := ⟨.struct [(0, 3), (1, 9)], 2, 24, [.int .i64 0, .str []]⟩
def ty207 : TInfo := ⟨.ptr 209, 1, 8, [.nilP]⟩
def ty209 : TInfo := ⟨.struct [(0, 57), (6, 53), (10, 3), (11, 9), (12, 9), (13, 171), (14, 4)], 15, 208, [.str [], .str [], .bool false, .bool false, .int .i64 0, .nil 1, .int .i64 0, .int .i64 0, .nil 7, .nil 1, .int .i64 0, .str [], .str [], .nil 5, .bool false]⟩
def ty222 : TInfo := ⟨.int .u32, 1, 4, [.int .u32 0]⟩
def ty233 : TInfo := ⟨.struct [(0, 5), (1, 5)], 2, 2, [.int .u8 0, .int .u8 0]⟩
def ty246 : TInfo := ⟨.struct [(0, 3), (1, 3)], 2, 16, [.int .i64 0, .int .i64 0]⟩
def ty247 : TInfo := ⟨.slice 246, 1, 24, [.nil 2]⟩
def ty331 : TInfo := ⟨.int .i64, 1, 8, [.int .i64 0]⟩
def ty340 : TInfo := ⟨.int .u64, 1, 8, [.int .u64 0]⟩
def ty348 : TInfo := ⟨.int .u64, 1, 8, [.int .u64 0]⟩
def ty352 : TInfo := ⟨.ptr 3, 1, 8, [.nilP]⟩
def ty356 : TInfo := ⟨.ptr 348, 1, 8, [.nilP]⟩
def ty367 : TInfo := ⟨.int .u8, 1, 1, [.int .u8 0]⟩
def tab : Tab := fun t => match t with
  | 2 => some ty2
  | 3 => some ty3
  | 4 => some ty4
  | 5 => some ty5
  | 6 => some ty6
  | 8 => some ty8
  | 9 => some ty9
  | 10 => some ty10
  | 11 => some ty11
  | 12 => some ty12
  | 14 => some ty14
  | 15 => some ty15
  | 16 => some ty16
  | 17 => some ty17
  | 19 => some ty19
  | 21 => some ty21
  | 22 => some ty22
  | 25 => some ty25
  | 29 => some ty29
  | 31 => some ty31
  | 39 => some ty39
  | 40 => some ty40
  | 41 => some ty41
  | 43 => some ty43
  | 44 => some ty44
  | 46 => some ty46
  | 51 => some ty51
  | 53 => some ty53
  | 55 => some ty55
  | 57 => some ty57
  | 59 => some ty59
  | 61 => some ty61
  | 82 => some ty82
  | 88 => some ty88
  | 90 => some ty90
  | 107 => some ty107
  | 112 => some ty112
  | 115 => some ty115
  | 117 => some ty117
  | 132 => some ty132
  | 136 => some ty136
  | 143 => some ty143
  | 144 => some ty144
  | 146 => some ty146
  | 147 => some ty147
  | 149 => some ty149
  | 167 => some ty167
  | 171 => some ty171
  | 175 => some ty175
  | 182 => some ty182
  | 188 => some ty188
  | 190 => some ty190
  | 195 => some ty195
  | 206 => some ty206
  | 207 => some ty207
  | 209 => some ty209
  | 222 => some ty222
  | 233 => some ty233
  | 246 => some ty246
  | 247 => some ty247
  | 331 => some ty331
  | 340 => some ty340
  | 348 => some ty348
  | 352 => some ty352
  | 356 => some ty356
  | 367 => some ty367
  | _ => none
theorem ok2 : TOk Tryz.prog 2 ty2 := ⟨⟨_, Tryz.underlying2, rfl, by intro _; rfl⟩, infB_ok (by kernel_rfl)⟩
theorem ok3 : TOk Tryz.prog 3 ty3 := ⟨⟨_, Tryz.underlying3, rfl, by intro _; rfl⟩, infB_ok (by kernel_rfl)⟩
theorem ok4 : TOk Tryz.prog 4 ty4 := ⟨⟨_, Tryz.underlying4, rfl, by intro _; rfl⟩, infB_ok (by kernel_rfl)⟩
theorem ok5 : TOk Tryz.prog 5 ty5 := ⟨⟨_, Tryz.underlying5, rfl, by intro _; rfl⟩, infB_ok (by kernel_rfl)⟩
theorem ok6 : TOk Tryz.prog 6 ty6 := ⟨⟨_, Tryz.underlying6, rfl, by intro _; rfl⟩, infB_ok (by kernel_rfl)⟩
theorem ok8 : TOk Tryz.prog 8 ty8 := ⟨⟨_, Tryz.underlying8, rfl, by simp [ty8, Kind.isAgg]⟩, infB_ok (by kernel_rfl)⟩
theorem ok9 : TOk Tryz.prog 9 ty9 := ⟨⟨_, Tryz.underlying9, rfl, by intro _; rfl⟩, infB_ok (by kernel_rfl)⟩
theorem ok10 : TOk Tryz.prog 10 ty10 := ⟨⟨_, Tryz.underlying10, rfl, by intro _; rfl⟩, infB_ok (by kernel_rfl)⟩
theorem ok11 : TOk Tryz.prog 11 ty11 := ⟨⟨_, Tryz.underlying11, rfl, by intro _; rfl⟩, infB_ok (by kernel_rfl)⟩
theorem ok12 : TOk Tryz.prog 12 ty12 := ⟨⟨_, Tryz.underlying12, rfl, by intro _; rfl⟩, infB_ok (by kernel_rfl)⟩
theorem ok14 : TOk Tryz.prog 14 ty14 := ⟨⟨_, Tryz.underlying14, rfl, by simp [ty14, Kind.isAgg]⟩, infB_ok (by kernel_rfl)⟩
theorem ok15 : TOk Tryz.prog 15 ty15 := ⟨⟨_, Tryz.underlying15, rfl, by intro _; rfl⟩, infB_ok (by kernel_rfl)⟩
theorem ok16 : TOk Tryz.prog 16 ty16 := ⟨⟨_, Tryz.underlying16, rfl, by intro _; rfl⟩, infB_ok (by kernel_rfl)⟩
theorem ok17 : TOk Tryz.prog 17 ty17 := ⟨⟨_, Tryz.underlying17, rfl, by intro _; rfl⟩, infB_ok (by kernel_rfl)⟩
theorem ok19 : TOk Tryz.prog 19 ty19 := ⟨⟨_, Tryz.underlying19, rfl, by simp [ty19, Kind.isAgg]⟩, infB_ok (by kernel_rfl)⟩
theorem ok21 : TOk Tryz.prog 21 ty21 := ⟨⟨_, Tryz.underlying21, rfl, by intro _; rfl⟩, infB_ok (by kernel_rfl)⟩
theorem ok22 : TOk Tryz.prog 22 ty22 := ⟨⟨_, Tryz.underlying22, rfl, by intro _; rfl⟩, infB_ok (by kernel_rfl)⟩
theorem ok25 : TOk Tryz.prog 25 ty25 := ⟨⟨_, Tryz.underlying25, rfl, by intro _; rfl⟩, infB_ok (by kernel_rfl)⟩
theorem ok29 : TOk Tryz.prog 29 ty29 := ⟨⟨_, Tryz.underlying29, rfl, by simp [ty29, Kind.isAgg]⟩, infB_ok (by kernel_rfl)⟩
theorem ok31 : TOk Tryz.prog 31 ty31 := ⟨⟨_, Tryz.underlying31, rfl, by intro _; rfl⟩, infB_ok (by kernel_rfl)⟩
theorem ok39 : TOk Tryz.prog 39 ty39 := ⟨⟨_, Tryz.underlying39, rfl, by intro _; rfl⟩, infB_ok (by kernel_rfl)⟩
theorem ok40 : TOk Tryz.prog 40 ty40 := ⟨⟨_, Tryz.underlying40, rfl, by intro _; rfl⟩, infB_ok (by kernel_rfl)⟩
theorem ok41 : TOk Tryz.prog 41 ty41 := ⟨⟨_, Tryz.underlying41, rfl, by intro _; rfl⟩, infB_ok (by kernel_rfl)⟩
theorem ok43 : TOk Tryz.prog 43 ty43 := ⟨⟨_, Tryz.underlying43, rfl, by simp [ty43, Kind.isAgg]⟩, infB_ok (by kernel_rfl)⟩
theorem ok44 : TOk Tryz.prog 44 ty44 := ⟨⟨_, Tryz.underlying44, rfl, by intro _; rfl⟩, infB_ok (by kernel_rfl)⟩
theorem ok46 : TOk Tryz.prog 46 ty46 := ⟨⟨_, Tryz.underlying46, rfl, by simp [ty46, Kind.isAgg]⟩, infB_ok (by kernel_rfl)⟩
theorem ok51 : TOk Tryz.prog 51 ty51 := ⟨⟨_, Tryz.underlying51, rfl, by intro _; rfl⟩, infB_ok (by kernel_rfl)⟩
theorem ok53 : TOk Tryz.prog 53 ty53 := ⟨⟨_, Tryz.underlying53, rfl, by simp [ty53, Kind.isAgg]⟩, infB_ok (by kernel_rfl)⟩
theorem ok55 : TOk Tryz.prog 55 ty55 := ⟨⟨_, Tryz.underlying55, rfl, by simp [ty55, Kind.isAgg]⟩, infB_ok (by kernel_rfl)⟩
theorem ok57 : TOk Tryz.prog 57 ty57 := ⟨⟨_, Tryz.underlying57, rfl, by simp [ty57, Kind.isAgg]⟩, infB_ok (by kernel_rfl)⟩
theorem ok59 : TOk Tryz.prog 59 ty59 := ⟨⟨_, Tryz.underlying59, rfl, by simp [ty59, Kind.isAgg]⟩, infB_ok (by kernel_rfl)⟩
theorem ok61 : TOk Tryz.prog 61 ty61 := ⟨⟨_, Tryz.underlying61, rfl, by intro _; rfl⟩, infB_ok (by kernel_rfl)⟩
theorem ok82 : TOk Tryz.prog 82 ty82 := ⟨⟨_, Tryz.underlying82, rfl, by simp [ty82, Kind.isAgg]⟩, infB_ok (by kernel_rfl)⟩
theorem ok88 : TOk Tryz.prog 88 ty88 := ⟨⟨_, Tryz.underlying88, rfl, by intro _; rfl⟩, infB_ok (by kernel_rfl)⟩
theorem ok90 : TOk Tryz.prog 90 ty90 := ⟨⟨_, Tryz.underlying90, rfl, by simp [ty90, Kind.isAgg]⟩, infB_ok (by kernel_rfl)⟩
theorem ok107 : TOk Tryz.prog 107 ty107 := ⟨⟨_, Tryz.underlying107, rfl, by intro _; rfl⟩, infB_ok (by kernel_rfl)⟩
theorem ok112 : TOk Tryz.prog 112 ty112 := ⟨⟨_, Tryz.underlying112, rfl, by intro _; rfl⟩, infB_ok (by kernel_rfl)⟩
theorem ok115 : TOk Tryz.prog 115 ty115 := ⟨⟨_, Tryz.underlying115, rfl, by simp [ty115, Kind.isAgg]⟩, infB_ok (by kernel_rfl)⟩
theorem ok117 : TOk Tryz.prog 117 ty117 := ⟨⟨_, Tryz.underlying117, rfl, by simp [ty117, Kind.isAgg]⟩, infB_ok (by kernel_rfl)⟩
theorem ok132 : TOk Tryz.prog 132 ty132 := ⟨⟨_, Tryz.underlying132, rfl, by simp [ty132, Kind.isAgg]⟩, infB_ok (by kernel_rfl)⟩
theorem ok136 : TOk Tryz.prog 136 ty136 := ⟨⟨_, Tryz.underlying136, rfl, by simp [ty136, Kind.isAgg]⟩, infB_ok (by kernel_rfl)⟩
theorem ok143 : TOk Tryz.prog 143 ty143 := ⟨⟨_, Tryz.underlying143, rfl, by simp [ty143, Kind.isAgg]⟩, infB_ok (by kernel_rfl)⟩
theorem ok144 : TOk Tryz.prog 144 ty144 := ⟨⟨_, Tryz.underlying144, rfl, by intro _; rfl⟩, infB_ok (by kernel_rfl)⟩
theorem ok146 : TOk Tryz.prog 146 ty146 := ⟨⟨_, Tryz.underlying146, rfl, by simp [ty146, Kind.isAgg]⟩, infB_ok (by kernel_rfl)⟩
theorem ok147 : TOk Tryz.prog 147 ty147 := ⟨⟨_, Tryz.underlying147, rfl, by intro _; rfl⟩, infB_ok (by kernel_rfl)⟩
theorem ok149 : TOk Tryz.prog 149 ty149 := ⟨⟨_, Tryz.underlying149, rfl, by simp [ty149, Kind.isAgg]⟩, infB_ok (by kernel_rfl)⟩
theorem ok167 : TOk Tryz.prog 167 ty167 := ⟨⟨_, Tryz.underlying167, rfl, by intro _; rfl⟩, infB_ok (by kernel_rfl)⟩
theorem ok171 : TOk Tryz.prog 171 ty171 := ⟨⟨_, Tryz.underlying171, rfl, by intro _; rfl⟩, infB_ok (by kernel_rfl)⟩
theorem ok175 : TOk Tryz.prog 175 ty175 := ⟨⟨_, Tryz.underlying175, rfl, by simp [ty175, Kind.isAgg]⟩, infB_ok (by kernel_rfl)⟩
theorem ok182 : TOk Tryz.prog 182 ty182 := ⟨⟨_, Tryz.underlying182, rfl, by intro _; rfl⟩, infB_ok (by kernel_rfl)⟩
theorem ok188 : TOk Tryz.prog 188 ty188 := ⟨⟨_, Tryz.underlying188, rfl, by intro _; rfl⟩, infB_ok (by kernel_rfl)⟩
theorem ok190 : TOk Tryz.prog 190 ty190 := ⟨⟨_, Tryz.underlying190, rfl, by simp [ty190, Kind.isAgg]⟩, infB_ok (by kernel_rfl)⟩
theorem ok195 : TOk Tryz.prog 195 ty195 := ⟨⟨_, Tryz.underlying195, rfl, by simp [ty195, Kind.isAgg]⟩, infB_ok (by kernel_rfl)⟩
theorem ok206 : TOk Tryz.prog 206 ty206 := ⟨⟨_, Tryz.underlying206, rfl, by simp [ty206, Kind.isAgg]⟩, infB_ok (by kernel_rfl)⟩
theorem ok207 : TOk Tryz.prog 207 ty207 := ⟨⟨_, Tryz.underlying207, rfl, by intro _; rfl⟩, infB_ok (by kernel_rfl)⟩
theorem ok209 : TOk Tryz.prog 209 ty209 := ⟨⟨_, Tryz.underlying209, rfl, by simp [ty209, Kind.isAgg]⟩, infB_ok (by kernel_rfl)⟩
theorem ok222 : TOk Tryz.prog 222 ty222 := ⟨⟨_, Tryz.underlying222, rfl, by intro _; rfl⟩, infB_ok (by kernel_rfl)⟩
theorem ok233 : TOk Tryz.prog 233 ty233 := ⟨⟨_, Tryz.underlying233, rfl, by simp [ty233, Kind.isAgg]⟩, infB_ok (by kernel_rfl)⟩
theorem ok246 : TOk Tryz.prog 246 ty246 := ⟨⟨_, Tryz.underlying246, rfl, by simp [ty246, Kind.isAgg]⟩, infB_ok (by kernel_rfl)⟩
theorem ok247 : TOk Tryz.prog 247 ty247 := ⟨⟨_, Tryz.underlying247, rfl, by intro _; rfl⟩, infB_ok (by kernel_rfl)⟩
theorem ok331 : TOk Tryz.prog 331 ty331 := ⟨⟨_, Tryz.underlying331, rfl, by intro _; rfl⟩, infB_ok (by kernel_rfl)⟩
theorem ok340 : TOk Tryz.prog 340 ty340 := ⟨⟨_, Tryz.underlying340, rfl, by intro _; rfl⟩, infB_ok (by kernel_rfl)⟩
theorem ok348 : TOk Tryz.prog 348 ty348 := ⟨⟨_, Tryz.underlying348, rfl, by intro _; rfl⟩, infB_ok (by kernel_rfl)⟩
theorem ok352 : TOk Tryz.prog 352 ty352 := ⟨⟨_, Tryz.underlying352, rfl, by intro _; rfl⟩, infB_ok (by kernel_rfl)⟩
theorem ok356 : TOk Tryz.prog 356 ty356 := ⟨⟨_, Tryz.underlying356, rfl, by intro _; rfl⟩, infB_ok (by kernel_rfl)⟩
theorem ok367 : TOk Tryz.prog 367 ty367 := ⟨⟨_, Tryz.underlying367, rfl, by intro _; rfl⟩, infB_ok (by kernel_rfl)⟩
theorem tab_ok : TabOk Tryz.prog tab := by
  intro t i h
  unfold tab at h
  split at h
  · obtain rfl := Option.some.inj h; exact ok2
  · obtain rfl := Option.some.inj h; exact ok3
  · obtain rfl := Option.some.inj h; exact ok4
  · obtain rfl := Option.some.inj h; exact ok5
  · obtain rfl := Option.some.inj h; exact ok6
  · obtain rfl := Option.some.inj h; exact ok8
  · obtain rfl := Option.some.inj h; exact ok9
  · obtain rfl := Option.some.inj h; exact ok10
  · obtain rfl := Option.some.inj h; exact ok11
  · obtain rfl := Option.some.inj h; exact ok12
  · obtain rfl := Option.some.inj h; exact ok14
  · obtain rfl := Option.some.inj h; exact ok15
  · obtain rfl := Option.some.inj h; exact ok16
  · obtain rfl := Option.some.inj h; exact ok17
  · obtain rfl := Option.some.inj h; exact ok19
  · obtain rfl := Option.some.inj h; exact ok21
  · obtain rfl := Option.some.inj h; exact ok22
  · obtain rfl := Option.some.inj h; exact ok25
  · obtain rfl := Option.some.inj h; exact ok29
  · obtain rfl := Option.some.inj h; exact ok31
  · obtain rfl := Option.some.inj h; exact ok39
  · obtain rfl := Option.some.inj h; exact ok40
  · obtain rfl := Option.some.inj h; exact ok41
  · obtain rfl := Option.some.inj h; exact ok43
  · obtain rfl := Option.some.inj h; exact ok44
  · obtain rfl := Option.some.inj h; exact ok46
  · obtain rfl := Option.some.inj h; exact ok51
  · obtain rfl := Option.some.inj h; exact ok53
  · obtain rfl := Option.some.inj h; exact ok55
  · obtain rfl := Option.some.inj h; exact ok57
  · obtain rfl := Option.some.inj h; exact ok59
  · obtain rfl := Option.some.inj h; exact ok61
  · obtain rfl := Option.some.inj h; exact ok82
  · obtain rfl := Option.some.inj h; exact ok88
  · obtain rfl := Option.some.inj h; exact ok90
  · obtain rfl := Option.some.inj h; exact ok107
  · obtain rfl := Option.some.inj h; exact ok112
  · obtain rfl := Option.some.inj h; exact ok115
  · obtain rfl := Option.some.inj h; exact ok117
  · obtain rfl := Option.some.inj h; exact ok132
  · obtain rfl := Option.some.inj h; exact ok136
  · obtain rfl := Option.some.inj h; exact ok143
  · obtain rfl := Option.some.inj h; exact ok144
  · obtain rfl := Option.some.inj h; exact ok146
  · obtain rfl := Option.some.inj h; exact ok147
  · obtain rfl := Option.some.inj h; exact ok149
  · obtain rfl := Option.some.inj h; exact ok167
  · obtain rfl := Option.some.inj h; exact ok171
  · obtain rfl := Option.some.inj h; exact ok175
  · obtain rfl := Option.some.inj h; exact ok182
  · obtain rfl := Option.some.inj h; exact ok188
  · obtain rfl := Option.some.inj h; exact ok190
  · obtain rfl := Option.some.inj h; exact ok195
  · obtain rfl := Option.some.inj h; exact ok206
  · obtain rfl := Option.some.inj h; exact ok207
  · obtain rfl := Option.some.inj h; exact ok209
  · obtain rfl := Option.some.inj h; exact ok222
  · obtain rfl := Option.some.inj h; exact ok233
  · obtain rfl := Option.some.inj h; exact ok246
  · obtain rfl := Option.some.inj h; exact ok247
  · obtain rfl := Option.some.inj h; exact ok331
  · obtain rfl := Option.some.inj h; exact ok340
  · obtain rfl := Option.some.inj h; exact ok348
  · obtain rfl := Option.some.inj h; exact ok352
  · obtain rfl := Option.some.inj h; exact ok356
  · obtain rfl := Option.some.inj h; exact ok367
  · cases h
theorem kT : tab 2 = some ⟨.int .i64, 1, 8, [.int .i64 0]⟩ ∧ tab 3 = some ⟨.int .i64, 1, 8, [.int .i64 0]⟩ ∧ tab 4 = some ⟨.bool, 1, 1, [.bool false]⟩ ∧ tab 5 = some ⟨.int .u8, 1, 1, [.int .u8 0]⟩ ∧ tab 6 = some ⟨.int .u8, 1, 1, [.int .u8 0]⟩ ∧ tab 8 = some ⟨.struct [(0, 2), (1, 3), (2, 4), (3, 6)], 4, 24, [.int .i64 0, .int .i64 0, .bool false, .int .u8 0]⟩ ∧ tab 9 = some ⟨.str, 1, 16, [.str []]⟩ ∧ tab 10 = some ⟨.str, 1, 16, [.str []]⟩ ∧ tab 11 = some ⟨.str, 1, 16, [.str []]⟩ ∧ tab 12 = some ⟨.int .u64, 1, 8, [.int .u64 0]⟩ ∧ tab 14 = some ⟨.struct [(0, 9), (1, 12)], 2, 24, [.str [], .int .u64 0]⟩ ∧ tab 15 = some ⟨.ptr 362, 1, 8, [.nilP]⟩ ∧ tab 16 = some ⟨.ptr 365, 1, 8, [.nilP]⟩ ∧ tab 17 = some ⟨.ptr 372, 1, 8, [.nilP]⟩ ∧ tab 19 = some ⟨.struct [(0, 17)], 1, 8, [.nilP]⟩ ∧ tab 21 = some ⟨.int .i32, 1, 4, [.int .i32 0]⟩ ∧ tab 22 = some ⟨.slice 5, 1, 24, [.nil 1]⟩ ∧ tab 25 = some ⟨.slice 29, 1, 24, [.nil 4]⟩ ∧ tab 29 = some ⟨.struct [(0, 3), (1, 3), (2, 3), (3, 9)], 4, 40, [.int .i64 0, .int .i64 0, .int .i64 0, .str []]⟩ ∧ tab 31 = some ⟨.slice 9, 1, 24, [.nil 1]⟩ ∧ tab 39 = some ⟨.slice 59, 1, 24, [.nil 13]⟩ ∧ tab 40 = some ⟨.slice 117, 1, 24, [.nil 9]⟩ ∧ tab 41 = some ⟨.slice 136, 1, 24, [.nil 2]⟩ ∧ tab 43 = some ⟨.struct [(0, 39), (1, 40), (2, 41), (3, 3)], 4, 80, [.nil 13, .nil 9, .nil 2, .int .i64 0]⟩ ∧ tab 44 = some ⟨.slice 3, 1, 24, [.nil 1]⟩ ∧ tab 46 = some ⟨.struct [(0, 43), (4, 44)], 5, 104, [.nil 13, .nil 9, .nil 2, .int .i64 0, .nil 1]⟩ ∧ tab 51 = some ⟨.slice 146, 1, 24, [.nil 7]⟩ ∧ tab 53 = some ⟨.struct [(0, 3), (1, 3), (2, 51), (3, 44)], 4, 64, [.int .i64 0, .int .i64 0, .nil 7, .nil 1]⟩ ∧ tab 55 = some ⟨.struct [(0, 53), (4, 9), (5, 3)], 6, 88, [.int .i64 0, .int .i64 0, .nil 7, .nil 1, .str [], .int .i64 0]⟩ ∧ tab 57 = some ⟨.struct [(0, 9), (1, 9), (2, 4), (3, 4), (4, 3), (5, 44)], 6, 72, [.str [], .str [], .bool false, .bool false, .int .i64 0, .nil 1]⟩ ∧ tab 59 = some ⟨.struct [(0, 55), (6, 57), (12, 4)], 13, 168, [.int .i64 0, .int .i64 0, .nil 7, .nil 1, .str [], .int .i64 0, .str [], .str [], .bool false, .bool false, .int .i64 0, .nil 1, .bool false]⟩ ∧ tab 61 = some ⟨.ptr 82, 1, 8, [.nilP]⟩ ∧ tab 82 = some ⟨.struct [(0, 22), (1, 3), (2, 3)], 3, 40, [.nil 1, .int .i64 0, .int .i64 0]⟩ ∧ tab 88 = some ⟨.ptr 90, 1, 8, [.nilP]⟩ ∧ tab 90 = some ⟨.struct [(0, 88), (1, 22)], 2, 32, [.nilP, .nil 1]⟩ ∧ tab 107 = some ⟨.int .u64, 1, 8, [.int .u64 0]⟩ ∧ tab 112 = some ⟨.ptr 5, 1, 8, [.nilP]⟩ ∧ tab 115 = some ⟨.struct [(0, 3), (1, 31), (2, 3), (3, 3)], 4, 48, [.int .i64 0, .nil 1, .int .i64 0, .int .i64 0]⟩ ∧ tab 117 = some ⟨.struct [(0, 3), (1, 115), (5, 3), (6, 31), (7, 4), (8, 4)], 9, 96, [.int .i64 0, .int .i64 0, .nil 1, .int .i64 0, .int .i64 0, .int .i64 0, .nil 1, .bool false, .bool false]⟩ ∧ tab 132 = some ⟨.struct [(0, 3), (1, 3), (2, 3), (3, 9)], 4, 40, [.int .i64 0, .int .i64 0, .int .i64 0, .str []]⟩ ∧ tab 136 = some ⟨.struct [(0, 3), (1, 9)], 2, 24, [.int .i64 0, .str []]⟩ ∧ tab 143 = some ⟨.struct [(0, 3), (1, 3)], 2, 16, [.int .i64 0, .int .i64 0]⟩ ∧ tab 144 = some ⟨.slice 149, 1, 24, [.nil 4]⟩ ∧ tab 146 = some ⟨.struct [(0, 3), (1, 9), (2, 143), (4, 3), (5, 144), (6, 44)], 7, 96, [.int .i64 0, .str [], .int .i64 0, .int .i64 0, .int .i64 0, .nil 4, .nil 1]⟩ ∧ tab 147 = some ⟨.slice 195, 1, 24, [.nil 3]⟩ ∧ tab 149 = some ⟨.struct [(0, 3), (1, 3), (2, 147), (3, 9)], 4, 56, [.int .i64 0, .int .i64 0, .nil 3, .str []]⟩ ∧ tab 167 = some ⟨.slice 206, 1, 24, [.nil 2]⟩ ∧ tab 171 = some ⟨.slice 175, 1, 24, [.nil 5]⟩ ∧ tab 175 = some ⟨.struct [(0, 3), (1, 3), (2, 3), (3, 3), (4, 9)], 5, 48, [.int .i64 0, .int .i64 0, .int .i64 0, .int .i64 0, .str []]⟩ ∧ tab 182 = some ⟨.ptr 43, 1, 8, [.nilP]⟩ ∧ tab 188 = some ⟨.ptr 190, 1, 8, [.nilP]⟩ ∧ tab 190 = some ⟨.struct [(0, 9), (1, 3), (2, 4)], 3, 32, [.str [], .int .i64 0, .bool false]⟩ ∧ tab 195 = some ⟨.struct [(0, 3), (1, 143)], 3, 24, [.int .i64 0, .int .i64 0, .int .i64 0]⟩ ∧ tab 206 = some ⟨.struct [(0, 3), (1, 9)], 2, 24, [.int .i64 0, .str []]⟩ ∧ tab 207 = some ⟨.ptr 209, 1, 8, [.nilP]⟩ ∧ tab 209 = some ⟨.struct [(0, 57), (6, 53), (10, 3), (11, 9), (12, 9), (13, 171), (14, 4)], 15, 208, [.str [], .str [], .bool false, .bool false, .int .i64 0, .nil 1, .int .i64 0, .int .i64 0, .nil 7, .nil 1, .int .i64 0, .str [], .str [], .nil 5, .bool false]⟩ ∧ tab 222 = some ⟨.int .u32, 1, 4, [.int .u32 0]⟩ ∧ tab 233 = some ⟨.struct [(0, 5), (1, 5)], 2, 2, [.int .u8 0, .int .u8 0]⟩ ∧ tab 246 = some ⟨.struct [(0, 3), (1, 3)], 2, 16, [.int .i64 0, .int .i64 0]⟩ ∧ tab 247 = some ⟨.slice 246, 1, 24, [.nil 2]⟩ ∧ tab 331 = some ⟨.int .i64, 1, 8, [.int .i64 0]⟩ ∧ tab 340 = some ⟨.int .u64, 1, 8, [.int .u64 0]⟩ ∧ tab 348 = some ⟨.int .u64, 1, 8, [.int .u64 0]⟩ ∧ tab 352 = some ⟨.ptr 3, 1, 8, [.nilP]⟩ ∧ tab 356 = some ⟨.ptr 348, 1, 8, [.nilP]⟩ ∧ tab 367 = some ⟨.int .u8, 1, 1, [.int .u8 0]⟩ := ⟨rfl, rfl, rfl, rfl, rfl, rfl, rfl, rfl, rfl, rfl, rfl, rfl, rfl, rfl, rfl, rfl, rfl, rfl, rfl, rfl, rfl, rfl, rfl, rfl, rfl, rfl, rfl, rfl, rfl, rfl, rfl, rfl, rfl, rfl, rfl, rfl, rfl, rfl, rfl, rfl, rfl, rfl, rfl, rfl, rfl, rfl, rfl, rfl, rfl, rfl, rfl, rfl, rfl, rfl, rfl, rfl, rfl, rfl, rfl, rfl, rfl, rfl, rfl, rfl, rfl, rfl⟩
theorem cl4 : Callable Tryz.prog 4 := ⟨_, Tryz.func4, rfl, by kernel_rfl⟩
theorem cl5 : Callable Tryz.prog 5 := ⟨_, Tryz.func5, rfl, by kernel_rfl⟩
theorem cl6 : Callable Tryz.prog 6 := ⟨_, Tryz.func6, rfl, by kernel_rfl⟩
theorem cl7 : Callable Tryz.prog 7 := ⟨_, Tryz.func7, rfl, by kernel_rfl⟩
theorem cl8 : Callable Tryz.prog 8 := ⟨_, Tryz.func8, rfl, by kernel_rfl⟩
theorem cl9 : Callable Tryz.prog 9 := ⟨_, Tryz.func9, rfl, by kernel_rfl⟩
theorem cl10 : Callable Tryz.prog 10 := ⟨_, Tryz.func10, rfl, by kernel_rfl⟩
theorem cl11 : Callable Tryz.prog 11 := ⟨_, Tryz.func11, rfl, by kernel_rfl⟩
theorem cl12 : Callable Tryz.prog 12 := ⟨_, Tryz.func12, rfl, by kernel_rfl⟩
theorem cl13 : Callable Tryz.prog 13 := ⟨_, Tryz.func13, rfl, by kernel_rfl⟩
theorem cl14 : Callable Tryz.prog 14 := ⟨_, Tryz.func14, rfl, by kernel_rfl⟩
theorem cl15 : Callable Tryz.prog 15 := ⟨_, Tryz.func15, rfl, by kernel_rfl⟩
theorem cl16 : Callable Tryz.prog 16 := ⟨_, Tryz.func16, rfl, by kernel_rfl⟩
theorem cl17 : Callable Tryz.prog 17 := ⟨_, Tryz.func17, rfl, by kernel_rfl⟩
theorem cl22 : Callable Tryz.prog 22 := ⟨_, Tryz.func22, rfl, by kernel_rfl⟩
theorem cl23 : Callable Tryz.prog 23 := ⟨_, Tryz.func23, rfl, by kernel_rfl⟩
theorem cl24 : Callable Tryz.prog 24 := ⟨_, Tryz.func24, rfl, by kernel_rfl⟩
theorem cl25 : Callable Tryz.prog 25 := ⟨_, Tryz.func25, rfl, by kernel_rfl⟩
theorem cl26 : Callable Tryz.prog 26 := ⟨_, Tryz.func26, rfl, by kernel_rfl⟩
theorem cl27 : Callable Tryz.prog 27 := ⟨_, Tryz.func27, rfl, by kernel_rfl⟩
theorem cl28 : Callable Tryz.prog 28 := ⟨_, Tryz.func28, rfl, by kernel_rfl⟩
theorem cl29 : Callable Tryz.prog 29 := ⟨_, Tryz.func29, rfl, by kernel_rfl⟩
theorem cl30 : Callable Tryz.prog 30 := ⟨_, Tryz.func30, rfl, by kernel_rfl⟩
theorem cl31 : Callable Tryz.prog 31 := ⟨_, Tryz.func31, rfl, by kernel_rfl⟩
theorem cl32 : Callable Tryz.prog 32 := ⟨_, Tryz.func32, rfl, by kernel_rfl⟩
theorem cl33 : Callable Tryz.prog 33 := ⟨_, Tryz.func33, rfl, by kernel_rfl⟩
theorem cl34 : Callable Tryz.prog 34 := ⟨_, Tryz.func34, rfl, by kernel_rfl⟩
theorem cl35 : Callable Tryz.prog 35 := ⟨_, Tryz.func35, rfl, by kernel_rfl⟩
theorem cl36 : Callable Tryz.prog 36 := ⟨_, Tryz.func36, rfl, by kernel_rfl⟩
theorem cl44 : Callable Tryz.prog 44 := ⟨_, Tryz.func44, rfl, by kernel_rfl⟩
theorem cl45 : Callable Tryz.prog 45 := ⟨_, Tryz.func45, rfl, by kernel_rfl⟩
theorem cl46 : Callable Tryz.prog 46 := ⟨_, Tryz.func46, rfl, by kernel_rfl⟩
theorem cl47 : Callable Tryz.prog 47 := ⟨_, Tryz.func47, rfl, by kernel_rfl⟩
theorem cl48 : Callable Tryz.prog 48 := ⟨_, Tryz.func48, rfl, by kernel_rfl⟩
theorem cl64 : Callable Tryz.prog 64 := ⟨_, Tryz.func64, rfl, by kernel_rfl⟩
theorem cl65 : Callable Tryz.prog 65 := ⟨_, Tryz.func65, rfl, by kernel_rfl⟩
end Go.Proofs.YtliiphpbfambcaaGreatDoor.K

/- The data of the program, as plain Lean data, and how it lies in cells. -/
namespace Go.Proofs.YtliiphpbfambcaaGreatDoor.K
open Go Go.RowKit
set_option linter.unusedVariables false
set_option linter.unusedSimpArgs false
abbrev Str := List UInt8
abbrev cS (s : Str) : List V := [.str s]
theorem bsimp : (∀ (p : Prop) [Decidable p], (decide p = true) = p) ∧ (∀ (p : Prop) [Decidable p], (decide p = false) = ¬ p) ∧ (∀ b : Bool, ((!b) = true) = (b = false)) ∧ (∀ b : Bool, ((!b) = false) = (b = true)) :=
  ⟨fun p => by simp, fun p => by simp, fun b => by simp, fun b => by simp⟩
theorem travLL_map {α : Type} {f0 : Nat → V} {fs : Nat → Nat → Nat → List (List V) → V} {fp : Nat → Nat → Nat → List V → V} {f : α → List V} (hf : ∀ x, V.travL f0 fs fp (f x) = f x) (xs : List α) : V.travLL f0 fs fp (xs.map f) = xs.map f := by
  rw [travLL_eq, List.map_map]
  exact List.map_congr_left fun x _ => hf x
theorem kL : (∀ (α β : Type) (f : α → β) (l : List α), (l.map f).length = l.length) ∧ (∀ (n : Nat), 0 + n = n) ∧ (∀ (α : Type), (@List.nil α).length = 0) ∧ (1 + 1 = 2) ∧ (1 + 2 = 3) ∧ (2 + 1 = 3) ∧ (3 + 1 = 4) ∧ (4 + 1 = 5) ∧ (5 + 1 = 6) ∧ (6 + 1 = 7) ∧ (7 + 1 = 8) ∧ (8 + 1 = 9) :=
  ⟨fun _ _ f l => List.length_map f, Nat.zero_add, fun _ => rfl, rfl, rfl, rfl, rfl, rfl, rfl, rfl, rfl, rfl⟩
theorem wrap_succ {i : Nat} (h : i < 9223372036854775807) : IntKind.i64.wrap ((i : Int) + 1) = ((i + 1 : Nat) : Int) := by rw [IntKind.wrap_i64]; omega
def szLoop : List Str → Int → Int
  | [], left => left
  | s :: r, left => if IntKind.i64.wrap (left - s.length) < 0 then -1 else szLoop r (IntKind.i64.wrap (left - s.length))
def szStrs (a : List Str) (left : Int) : Int := if IntKind.i64.wrap (left - a.length) < 0 then -1 else szLoop a (IntKind.i64.wrap (left - a.length))
structure Link where
  epoch : Int
  way : List Str
  next : Int
  want : Int
  deriving DecidableEq
abbrev cLink (l : Link) : List V := [.int .i64 l.epoch, .sl 0 1 0 (l.way.map cS), .int .i64 l.next, .int .i64 l.want]
structure Sync where
  epoch : Int
  link : Link
  total : Int
  pieces : List Str
  done : Bool
  failed : Bool
  deriving DecidableEq
abbrev cSync (y : Sync) : List V := [.int .i64 y.epoch, .int .i64 y.link.epoch, .sl 0 1 0 (y.link.way.map cS), .int .i64 y.link.next, .int .i64 y.link.want, .int .i64 y.total, .sl 0 1 0 (y.pieces.map cS), .bool y.done, .bool y.failed]
abbrev StrsOk (a : List Str) : Prop := a.length ≤ 1048576
def szLink (l : Link) (left : Int) : Int := if szStrs l.way left < 0 then -1 else szStrs l.way left
def szSync (y : Sync) (left : Int) : Int := if szLink y.link left < 0 then -1 else if szStrs y.pieces (szLink y.link left) < 0 then -1 else szStrs y.pieces (szLink y.link left)
def syncOver (y : Sync) : Bool := y.done && decide ((y.link.way.length : Int) = 0)
theorem set_map {α : Type} (f : α → List V) (xs : List α) (i : Nat) (x : α) : (xs.map f).set i (f x) = (xs.set i x).map f := by rw [List.map_set]
structure Packet where
  epoch : Int
  seq : Int
  ack : Int
  text : Str
  deriving DecidableEq
abbrev cPacket (p : Packet) : List V := [.int .i64 p.epoch, .int .i64 p.seq, .int .i64 p.ack, .str p.text]
def linkSays (l : Link) : Packet := match l.way with
  | [] => ⟨l.epoch, 0, l.want, []⟩
  | s :: _ => ⟨l.epoch, l.next, l.want, s⟩
end Go.Proofs.YtliiphpbfambcaaGreatDoor.K

/- More rules, as a walk uses them. Nothing here depends on the program. -/
namespace Go.Proofs.YtliiphpbfambcaaGreatDoor.K
open Go Go.RowKit
set_option linter.unusedVariables false
set_option linter.unusedSimpArgs false

section
variable {P : Program} {ti : Tab} {t t' h h' : List V} {n n' c : Nat} {Q : Exit → List V → List V → Nat → Prop} {ops : Array Oper} {o : Oper} {l : List Oper} {X : V}
theorem OkCall.enter' (hti : TabOk P ti) {f : FuncId} {fn : Func} {c : Code} {args : List V} {Q : V → List V → Nat → Prop} (hf : P.funcs[f]? = some fn) (hb : fn.body = some c)
    (ht : args ++ List.replicate (fn.ntmps - args.length) .any = t) (hk : Ok P c t h n (retQ ti fn Q)) : OkCall P f args h n Q := OkCall.enter hti hf hb (ht ▸ hk)
theorem OkOps.upd {fx : Operand} {args : Array Operand} {ts : Array TypeId} {f : FuncId} {caps ags : List V} {L j : Nat} {e' : List V} {x : V} (hg : o.guard = none) (ho : o.op = .call ⟨.value fx, args, ts⟩) (hf : opnd t fx = .fn f caps) (ha : args.toList.map (opnd t) ++ caps = ags)
    (hcl : Callable P f) (hc : ∀ h, OkCall P f ags h n fun r h1 n1 => r = x ∧ h1 = V.updL L j e' h ∧ n1 = n) (ht : putV (V.updL L j e' t) o.dst x = t') (hh : V.updL L j e' h = h') (hk : OkOps P ops l t' h' n Q) : OkOps P ops (o :: l) t h n Q := by
  refine OkOps.step hg (t' := t') (h' := h') (n' := n) ?_ hk
  rw [← ht, ← hh]
  refine OpOk.call ho hf hcl ?_ ?_
  · unfold V.updL; rw [travL_len]
  · rw [ha]
    refine (hc (t ++ h)).mono ?_
    rintro r h1 n1 ⟨rfl, rfl, rfl⟩
    exact ⟨rfl, by unfold V.updL; rw [travL_eq, travL_eq, travL_eq, List.map_append], rfl⟩
theorem OkOps.S0 (hg : o.guard = none) (hs : OpS P o t n X 0) (ht : putV t o.dst X = t') (hk : OkOps P ops l t' h n Q) : OkOps P ops (o :: l) t h n Q := OkOps.S hg hs ht hk
theorem SOps.S0 {Q : List V → Nat → Prop} (hg : o.guard = none) (hs : OpS P o (mask (o.looksAt ops) t) n X 0) (ht : putV t o.dst X = t') (hk : SOps P ops l t' n Q) : SOps P ops (o :: l) t n Q := SOps.S hg hs ht hk
theorem SOps.onS0 {Q : List V → Nat → Prop} {j d : Nat} {want : Bool} (hg : o.guard = some (j, want)) (hd : (ops[j]?).bind (·.dst) = some d) (hb : nth t d = .bool want) (hs : OpS P o (mask (o.looksAt ops) t) n X 0) (ht : putV t o.dst X = t') (hk : SOps P ops l t' n Q) : SOps P ops (o :: l) t n Q := SOps.onS hg hd hb hs ht hk
theorem OkOps.S' (hg : o.guard = none) (hs : OpS P o t n X c) (hn : n + c = n') (ht : putV t o.dst X = t') (hk : OkOps P ops l t' h n' Q) : OkOps P ops (o :: l) t h n Q :=
  OkOps.S hg hs ht (hn ▸ hk)
theorem SOps.S' {Q : List V → Nat → Prop} (hg : o.guard = none) (hs : OpS P o (mask (o.looksAt ops) t) n X c) (hn : n + c = n') (ht : putV t o.dst X = t') (hk : SOps P ops l t' n' Q) : SOps P ops (o :: l) t n Q :=
  SOps.S hg hs ht (hn ▸ hk)
theorem TOps.S0 (hg : o.guard = none) (hs : OpS P o t n X 0) (ht : putV t o.dst X = t') (hk : TOps P ops [] Q l t' h n) : TOps P ops [] Q (o :: l) t h n :=
  TOps.ok h hg (ht ▸ hs.ok) hk
theorem TOps.S (hg : o.guard = none) (hs : OpS P o t n X c) (ht : putV t o.dst X = t') (hk : TOps P ops [] Q l t' h (n + c)) : TOps P ops [] Q (o :: l) t h n :=
  TOps.ok h hg (ht ▸ hs.ok) hk
theorem TOps.S' (hg : o.guard = none) (hs : OpS P o t n X c) (hn : n + c = n') (ht : putV t o.dst X = t') (hk : TOps P ops [] Q l t' h n') : TOps P ops [] Q (o :: l) t h n :=
  TOps.S hg hs ht (hn ▸ hk)
end

section
variable {P : Program} {t : List V} {ops : Array Oper} {o : Oper}
end
def overW : List (Nat × V) → List V → List V
  | [], t => t
  | (d, x) :: l, t => overW l (setN t d x)
def overD : List Nat → List V → List V
  | [], t => t
  | d :: l, t => overD l (setN t d .any)
theorem kover : (∀ (t : List V), overW [] t = t) ∧ (∀ (d : Nat) (x : V) (l : List (Nat × V)) (t : List V), overW ((d, x) :: l) t = overW l (setN t d x)) ∧ (∀ (t : List V), overD [] t = t) ∧ (∀ (d : Nat) (l : List Nat) (t : List V), overD (d :: l) t = overD l (setN t d .any)) ∧
    (∀ (y : V) (l : List V) (x : V), setN (y :: l) 0 x = x :: l) ∧ (∀ (y : V) (l : List V) (i : Nat) (x : V), setN (y :: l) (i + 1) x = y :: setN l i x) :=
  ⟨fun _ => rfl, fun _ _ _ _ => rfl, fun _ => rfl, fun _ _ _ => rfl, kput_2, kput_3⟩
section
variable {P : Program} {t h : List V} {n : Nat} {Q : Exit → List V → List V → Nat → Prop}
theorem Ok.seqC {x y : Code} {F : List V} (W : List (Nat × V)) (dead : List Nat) (hF : overW W (overD dead t) = F) (hx : Ok P x t h n (fun e t' h' n1 => e = .normal ∧ leL t' F ∧ h' = h ∧ n1 = n)) (hy : Ok P y F h n Q) : Ok P (.seq x y) t h n Q := by
  refine Ok.seq (hx.mono ?_)
  rintro e t' h' n1 ⟨rfl, hl, rfl, rfl⟩
  exact Ok.forget (leL_spec hl).1 (leL_spec hl).2 hy
theorem Ok.loopW {τ : Type} {c : Code} {F : τ → List V} (W : τ → List (Nat × V)) (dead : List Nat) (hF : ∀ x, overW (W x) (overD dead t) = F x) (p : τ → Prop) (m : τ → Nat) (x : τ) (hle : leL t (F x)) (hp : p x)
    (round : ∀ x, p x → Ok P c (F x) h n (thenQ (fun t' h' n' => ∃ y, leL t' (F y) ∧ h' = h ∧ n' = n ∧ p y ∧ m y < m x) Q)) : Ok P (.loop c) t h n Q := Ok.loopF F p m x hle hp round
theorem Ok.loopWZ {τ : Type} {c : Code} {F : τ → List V} (W : τ → List (Nat × V)) (dead : List Nat) (hF : ∀ x, overW (W x) (overD dead t) = F x) (p : τ → Prop) (m : τ → Nat) (x : τ) (hn : 1 ≤ n) (hle : leL t (F x)) (hp : p x)
    (round : ∀ x, p x → Ok P c (F x) h n (thenQ (fun t' h' _ => ∃ y, leL (V.renL (frz n) t') (F y) ∧ V.renL (frz n) h' = h ∧ p y ∧ m y < m x) Q)) : Ok P (.loop c) t h n Q := Ok.loopZ F p m x hn hle hp round
end

section
variable {ti : Tab} {t : List V} {n : Nat}
theorem ev_idx_map {α : Type} {f : α → List V} {xs : List α} {ty T : TypeId} {x ix : Operand} {L sz off j : Nat} {k : IntKind} (hx : opnd t x = .sl L sz off (xs.map f)) (hi : opnd t ix = .int k (j : Int)) (hj : j < xs.length) (hz : esz ti T = some (f xs[j]).length) :
    ev1 ti t n ty (.indexAddr T x ix) = some (.ptr L (off + j) 0 (f xs[j]), n) :=
  ev_idx hx hi (by rw [List.getElem?_map, List.getElem?_eq_getElem hj]; rfl) hz
theorem ev_byte_lt {ty T : TypeId} {x ix : Operand} {j : Nat} {k : IntKind} {s : List UInt8} {s1 b1 : Nat} {z : List V} (hx : opnd t x = .str s) (hi : opnd t ix = .int k (j : Int)) (hj : j < s.length) (hz : ti T = some ⟨.str, s1, b1, z⟩) :
    ev1 ti t n ty (.index T x ix) = some (.int .u8 (s[j].toNat : Int), n) := ev_byte hx hi (List.getElem?_eq_getElem hj) hz
theorem ev_cat {ty T T' : TypeId} {x y : Operand} {a b : List UInt8} (hx : opnd t x = .str a) (hy : opnd t y = .str b) (hl : a.length + b.length ≤ 9223372036854775807) : ev1 ti t n ty (.binOp .add T x y T') = some (.str (a ++ b), n) := by
  simp only [ev1, hx, hy, binV, strBin, if_pos hl, Option.map_some]
theorem bound_some {m b : Nat} {k : IntKind} (h : b ≤ m) : boundV m (some (.int k (b : Int))) = some b := by
  simp only [boundV]
  rw [if_pos ⟨by omega, by omega⟩]
  simp
theorem ev_cut {ty T : TypeId} {x lo hi : Operand} {s : List UInt8} {k k' : IntKind} {a b s1 b1 : Nat} {z : List V} (hx : opnd t x = .str s) (hlo : opnd t lo = .int k (a : Int)) (hhi : opnd t hi = .int k' (b : Int)) (hT : ti T = some ⟨.str, s1, b1, z⟩) (h1 : a ≤ b) (h2 : b ≤ s.length) :
    ev1 ti t n ty (.slice T x (some lo) (some hi) none) = some (.str ((s.take b).drop a), n) := by
  simp only [ev1, hx, Option.map_some, hlo, hhi, sliceV, hT, bound_some h2, Option.bind_some, lowV, bound_some h1]
theorem ev_cutHi {ty T : TypeId} {x hi : Operand} {s : List UInt8} {k' : IntKind} {b s1 b1 : Nat} {z : List V} (hx : opnd t x = .str s) (hhi : opnd t hi = .int k' (b : Int)) (hT : ti T = some ⟨.str, s1, b1, z⟩) (h2 : b ≤ s.length) :
    ev1 ti t n ty (.slice T x none (some hi) none) = some (.str (s.take b), n) := by
  simp only [ev1, hx, Option.map_some, Option.map_none, hhi, sliceV, hT, bound_some h2, Option.bind_some, lowV, List.drop_zero]
theorem ev_cutLo {ty T : TypeId} {x lo : Operand} {s : List UInt8} {k : IntKind} {a s1 b1 : Nat} {z : List V} (hx : opnd t x = .str s) (hlo : opnd t lo = .int k (a : Int)) (hT : ti T = some ⟨.str, s1, b1, z⟩) (h1 : a ≤ s.length) :
    ev1 ti t n ty (.slice T x (some lo) none none) = some (.str (s.drop a), n) := by
  simp only [ev1, hx, Option.map_some, Option.map_none, hlo, sliceV, hT, boundV, Option.bind_some, lowV]
  rw [if_pos ⟨by omega, by omega⟩]
  simp
theorem ev_partHi {ty T e : TypeId} {x hi : Operand} {L sz off : Nat} {es : List (List V)} {k' : IntKind} {b s1 b1 : Nat} {z : List V} (hx : opnd t x = .sl L sz off es) (hhi : opnd t hi = .int k' (b : Int)) (hT : ti T = some ⟨.slice e, s1, b1, z⟩)
    (he : (ti e).map (·.size) = some sz) (h2 : b ≤ es.length) : ev1 ti t n ty (.slice T x none (some hi) none) = some (.sl L sz off (es.take b), n) := by
  simp only [ev1, hx, Option.map_some, Option.map_none, hhi, sliceV, hT, bound_some h2, Option.bind_some, lowV, he, if_true, List.drop_zero, Nat.add_zero]
theorem ev_partLo {ty T e : TypeId} {x lo : Operand} {L sz off : Nat} {es : List (List V)} {k : IntKind} {a s1 b1 : Nat} {z : List V} (hx : opnd t x = .sl L sz off es) (hlo : opnd t lo = .int k (a : Int)) (hT : ti T = some ⟨.slice e, s1, b1, z⟩)
    (he : (ti e).map (·.size) = some sz) (h1 : a ≤ es.length) : ev1 ti t n ty (.slice T x (some lo) none none) = some (.sl L sz (off + a) (es.drop a), n) := by
  simp only [ev1, hx, Option.map_some, Option.map_none, hlo, sliceV, hT, boundV, Option.bind_some, lowV]
  rw [if_pos ⟨by omega, by omega⟩]
  simp [he]
theorem ev_partHi_map {α : Type} {f : α → List V} {xs : List α} {ty T e : TypeId} {x hi : Operand} {L sz off : Nat} {k' : IntKind} {b s1 b1 : Nat} {z : List V} (hx : opnd t x = .sl L sz off (xs.map f)) (hhi : opnd t hi = .int k' (b : Int)) (hT : ti T = some ⟨.slice e, s1, b1, z⟩)
    (he : (ti e).map (·.size) = some sz) (h2 : b ≤ xs.length) : ev1 ti t n ty (.slice T x none (some hi) none) = some (.sl L sz off ((xs.take b).map f), n) := by
  rw [List.map_take]; exact ev_partHi hx hhi hT he (by rw [List.length_map]; exact h2)
theorem ev_partLo_map {α : Type} {f : α → List V} {xs : List α} {ty T e : TypeId} {x lo : Operand} {L sz off : Nat} {k : IntKind} {a s1 b1 : Nat} {z : List V} (hx : opnd t x = .sl L sz off (xs.map f)) (hlo : opnd t lo = .int k (a : Int)) (hT : ti T = some ⟨.slice e, s1, b1, z⟩)
    (he : (ti e).map (·.size) = some sz) (h1 : a ≤ xs.length) : ev1 ti t n ty (.slice T x (some lo) none none) = some (.sl L sz (off + a) ((xs.drop a).map f), n) := by
  rw [List.map_drop]; exact ev_partLo hx hlo hT he (by rw [List.length_map]; exact h1)
theorem ev_bs {ty T e : TypeId} {len : Nat} {parts : Array (Nat × Operand)} {s1 b1 sz b : Nat} {z1 z : List V} {k : Kind} {ps : List (Nat × V)} {es : List (List V)} (hT : ti T = some ⟨.slice e, s1, b1, z1⟩) (he : ti e = some ⟨k, sz, b, z⟩) (hl : len ≠ 0)
    (h1 : len * sz ≤ 16777216 ∧ 0 < sz ∧ z.length = sz) (hp : (parts.toList.map fun p => (p.1, opnd t p.2)) = ps) (hf : fillE sz (List.replicate len z) ps = some es) : ev1 ti t n ty (.buildSlice T len parts) = some (.sl n sz 0 es, n + 1) := by
  simp only [ev1, hT, he, if_neg hl, if_pos h1, hp, hf, Option.map_some]
def convW (ti : Tab) (i j : Option TInfo) (x : V) : Option V :=
  match i, j, x with
  | some _, some ⟨.int k, _, _, _⟩, .int _ n => some (.int k (k.wrap n))
  | some ⟨.str, _, _, _⟩, some ⟨.str, _, _, _⟩, .str s => some (.str s)
  | some ⟨.slice e, _, _, _⟩, some ⟨.str, _, _, _⟩, .sl _ _ _ es => (ti e).bind fun i => match i.kind with | .int .u8 => (bytesV es).map .str | _ => none
  | some ⟨.slice e, _, _, _⟩, some ⟨.str, _, _, _⟩, .nil _ => (ti e).bind fun i => match i.kind with | .int .u8 => some (.str []) | _ => none
  | _, _, _ => none
theorem kC : (∀ (ti : Tab) (s d : TypeId) (x : V), convV ti s d x = convW ti (ti s) (ti d) x) ∧ (∀ (ti : Tab) (i : TInfo) (k k' : IntKind) (a b : Nat) (z : List V) (n : Int), convW ti (some i) (some ⟨.int k, a, b, z⟩) (.int k' n) = some (.int k (k.wrap n))) ∧ (∀ (α β : Type) (f : α → β) (x : α), (some x).map f = some (f x)) :=
  ⟨fun _ _ _ _ => rfl, fun _ _ _ _ _ _ _ _ => rfl, fun _ _ _ _ => rfl⟩
theorem kfe : (∀ (sz : Nat) (es : List (List V)), fillE sz es [] = some es) ∧ (∀ (sz : Nat) (es : List (List V)) (i : Nat) (x : V) (r : List (Nat × V)), fillE sz es ((i, x) :: r) = if x.known && (cellsV x).length == sz && decide (i < es.length) then fillE sz (es.set i (cellsV x)) r else none) ∧
    (∀ k m, (V.int k m).known = true) ∧ (∀ s, (V.str s).known = true) ∧ (∀ b, (V.bool b).known = true) ∧ (∀ c, (V.agg c).known = true) ∧ (∀ a b c d, (V.sl a b c d).known = true) ∧ (∀ a, (V.nil a).known = true) ∧
    (∀ k m, cellsV (V.int k m) = [.int k m]) ∧ (∀ s, cellsV (V.str s) = [.str s]) ∧ (∀ b, cellsV (V.bool b) = [.bool b]) ∧ (∀ c, cellsV (V.agg c) = c) ∧ (∀ a b c d, cellsV (V.sl a b c d) = [.sl a b c d]) ∧ (∀ a, cellsV (V.nil a) = [.nil a]) ∧
    (∀ (n : Nat) (z : List V), List.replicate (n + 1) z = z :: List.replicate n z) ∧ (∀ z : List V, List.replicate 0 z = []) ∧ (∀ (x y : List V) (l : List (List V)), (x :: l).set 0 y = y :: l) ∧ (∀ (x y : List V) (l : List (List V)) (i : Nat), (x :: l).set (i + 1) y = x :: l.set i y) ∧ (∀ (x : List V) (l : List (List V)), (x :: l).length = l.length + 1) ∧ ([] : List (List V)).length = 0 ∧
    (∀ (x : V) (l : List V), (x :: l).length = l.length + 1) ∧ ([] : List V).length = 0 :=
  ⟨fun _ _ => rfl, fun _ _ _ _ _ => rfl, fun _ _ => rfl, fun _ => rfl, fun _ => rfl, fun _ => rfl, fun _ _ _ _ => rfl, fun _ => rfl, fun _ _ => rfl, fun _ => rfl, fun _ => rfl, fun _ => rfl, fun _ _ _ _ => rfl, fun _ => rfl, fun _ _ => rfl, fun _ => rfl, fun _ _ _ => rfl, fun _ _ _ _ => rfl, fun _ _ => rfl, rfl, fun _ _ => rfl, rfl⟩
abbrev cB (b : UInt8) : List V := [.int .u8 (b.toNat : Int)]
theorem bytesV_map (xs : List UInt8) : bytesV (xs.map cB) = some xs := by
  induction xs with
  | nil => rfl
  | cons x xs ih => simp only [List.map_cons, bytesV, ih, Option.map_some, Int.toNat_natCast, UInt8.ofNat_toNat]
end
end Go.Proofs.YtliiphpbfambcaaGreatDoor.K

/- The rules of the walks with the evaluator's steps filled in, for short texts. -/
namespace Go.Proofs.YtliiphpbfambcaaGreatDoor.K
open Go Go.RowKit
set_option linter.unusedVariables false
section
variable {t t' h h' : List V} {n n' : Nat} {X : V} {o : Oper} {ops : Array Oper} {l : List Oper} {Q : Exit → List V → List V → Nat → Prop}
theorem EV (hk : OkOps Tryz.prog ops l t' h n' Q) (hg : o.guard = none := by rfl) (he : ev1 tab t n o.type o.op = some (X, n') := by simp only [kE, kT, kL, kC] <;> rfl) (ht : putV t o.dst X = t' := by simp only [kP] <;> rfl) : OkOps Tryz.prog ops (o :: l) t h n Q :=
  OkOps.ev tab_ok hg he ht hk
theorem SV {Q : List V → Nat → Prop} (hk : SOps Tryz.prog ops l t' n' Q) (hg : o.guard = none := by rfl) (he : ev1 tab t n o.type o.op = some (X, n') := by simp only [kE, kT, kL, kC] <;> rfl) (ht : putV t o.dst X = t' := by simp only [kP] <;> rfl) : SOps Tryz.prog ops (o :: l) t n Q :=
  SOps.ev tab_ok hg he ht hk
theorem TV (hk : TOps Tryz.prog ops [] Q l t' h n') (hg : o.guard = none := by rfl) (he : ev1 tab t n o.type o.op = some (X, n') := by simp only [kE, kT, kL, kC] <;> rfl) (ht : putV t o.dst X = t' := by simp only [kP] <;> rfl) : TOps Tryz.prog ops [] Q (o :: l) t h n :=
  TOps.ev tab_ok hg he ht hk
theorem OQ {id : Nat} {y : Code} (hk : OkOps Tryz.prog l.toArray l t h n (thenQ (fun t' h' n' => Ok Tryz.prog y t' h' n' Q) Q)) : Ok Tryz.prog (.seq (.region id l.toArray false) y) t h n Q := Ok.seq (Ok.region hk)
theorem ON (hq : Q .normal t h n) : OkOps Tryz.prog ops [] t h n Q := OkOps.nil hq
theorem OO {j d : Nat} {want : Bool} (hk : OkOps Tryz.prog ops ({ o with guard := none } :: l) t h n Q) (hg : o.guard = some (j, want) := by rfl) (hd : (ops[j]?).bind (·.dst) = some d := by rfl) (hb : nth t d = .bool want := by simp only [kE, kT, kL, kC]) : OkOps Tryz.prog ops (o :: l) t h n Q :=
  OkOps.on hg hd hb hk
theorem RT {fn : Func} {Q : V → List V → Nat → Prop} {xs : List V} {x : V} (hq : Q x h n) (hx : resVs tab t fn.results.toList = some xs := by (first | (show resVs tab _ [.tmp _] = _; simp only [kE, kT, kL, kC]; done) | (show resVs tab _ [.tmp _] = _; simp only [kE, kT, kL, kC] <;> rfl) | (show resVs tab _ [.cell _ _] = _; simp only [kE, kT, kL, kC] <;> rfl) | (show resVs tab _ [.tmp _, .tmp _] = _; simp only [kE, kT, kL, kC] <;> rfl) | (show resVs tab _ [.cell _ _, .tmp _] = _; simp only [kE, kT, kL, kC] <;> rfl) | (show resVs tab _ [] = _; simp only [kE, kT, kL, kC] <;> rfl))) (hp : packV xs = x := by rfl) : retQ tab fn Q .ret t h n :=
  retQ.end hx hp hq
theorem OU {j d : Nat} {want : Bool} (hk : OkOps Tryz.prog ops l t' h n Q) (hg : o.guard = some (j, want) := by rfl) (hd : (ops[j]?).bind (·.dst) = some d := by rfl) (hb : nth t d = .bool (!want) ∨ nth t d = .tup [] := by first | (refine .inl ?_; simp only [kE, kT, kL, kC, Bool.not_true, Bool.not_false]; done) | (refine .inr ?_; simp only [kE, kT, kL, kC]; done)) (ht : putV t o.dst (.tup []) = t' := by simp only [kP] <;> rfl) : OkOps Tryz.prog ops (o :: l) t h n Q :=
  OkOps.offU hg hd hb ht hk
theorem SU {Q : List V → Nat → Prop} {j d : Nat} {want : Bool} (hk : SOps Tryz.prog ops l t' n Q) (hg : o.guard = some (j, want) := by rfl) (hd : (ops[j]?).bind (·.dst) = some d := by rfl) (hb : nth t d = .bool (!want) ∨ nth t d = .tup [] := by first | (refine .inl ?_; simp only [kE, kT, kL, kC, Bool.not_true, Bool.not_false]; done) | (refine .inr ?_; simp only [kE, kT, kL, kC]; done)) (ht : putV t o.dst (.tup []) = t' := by simp only [kP] <;> rfl) : SOps Tryz.prog ops (o :: l) t n Q :=
  SOps.offU hg hd hb ht hk
theorem SN {Q : List V → Nat → Prop} {j d : Nat} {want : Bool} (hk : SOps Tryz.prog ops l t' n' Q) (hg : o.guard = some (j, want) := by rfl) (hd : (ops[j]?).bind (·.dst) = some d := by rfl) (hb : nth t d = .bool want := by simp only [kE, kT, kL, kC]) (he : ev1 tab t n o.type o.op = some (X, n') := by simp only [kE, kT, kL, kC] <;> rfl) (ht : putV t o.dst X = t' := by simp only [kP] <;> rfl) : SOps Tryz.prog ops (o :: l) t n Q :=
  SOps.onEv tab_ok hg hd hb he ht hk
theorem OP {d : Nat} {b : Bool} {t1 t2 : List V} (h1 : b = true → OkOps Tryz.prog ops l t1 h n Q) (h2 : b = false → OkOps Tryz.prog ops l t2 h n Q) (hb : nth t d = .bool b := by simp only [kE, kT, kL, kC] <;> rfl) (e1 : setN t d (.bool true) = t1 := by simp only [kP] <;> rfl) (e2 : setN t d (.bool false) = t2 := by simp only [kP] <;> rfl) : OkOps Tryz.prog ops l t h n Q :=
  OkOps.split hb e1 e2 h1 h2
theorem OC {c : Operand} {x y : Code} {b : Bool} (hx : b = true → Ok Tryz.prog x t h n Q) (hy : b = false → Ok Tryz.prog y t h n Q) (hc : opnd t c = .bool b := by simp only [kE, kT, kL, kC] <;> rfl) : Ok Tryz.prog (.cond c x y) t h n Q := Ok.cond hc hx hy
theorem OW {fx : Operand} {args : Array Operand} {ts : Array TypeId} {f : FuncId} {caps ags : List V} (hcl : Callable Tryz.prog f) (hp : Weak Tryz.prog f ags X) (hk : OkOps Tryz.prog ops l t' h n Q) (hg : o.guard = none := by rfl) (ho : o.op = .call ⟨.value fx, args, ts⟩ := by rfl) (hf : opnd t fx = .fn f caps := by simp only [kE, kT, kL, kC] <;> rfl) (ha : args.toList.map (opnd t) ++ caps = ags := by simp only [kE, kT, kL, kC] <;> rfl) (ht : putV t o.dst X = t' := by simp only [kP] <;> rfl) : OkOps Tryz.prog ops (o :: l) t h n Q :=
  OkOps.S0 hg (OpS.weak' ho hf ha hcl hp) ht hk
theorem leC {a b : V} {l m : List V} (h2 : leL l m) (h : V.le a b := by first | exact le_any _ | with_reducible exact le_rfl' _) : leL (a :: l) (b :: m) := ⟨h, h2⟩
theorem leK {a b : V} {l m : List V} (h2 : leL l m) (h : V.le a b) : leL (a :: l) (b :: m) := ⟨h, h2⟩
theorem OX {j d : Nat} {want : Bool} (hk : OkOps Tryz.prog ops l t' h n' Q) (hg : o.guard = some (j, want) := by rfl) (hd : (ops[j]?).bind (·.dst) = some d := by rfl) (hb : nth t d = .bool want := by simp only [kE, kT, kL, kC]) (he : ev1 tab t n o.type o.op = some (X, n') := by simp only [kE, kT, kL, kC] <;> rfl) (ht : putV t o.dst X = t' := by simp only [kP] <;> rfl) : OkOps Tryz.prog ops (o :: l) t h n Q :=
  OkOps.on hg hd hb (OkOps.ev tab_ok rfl he ht hk)
theorem ANYS (k : Nat) {fn : Func} {args t : List V} (hk : fn.ntmps - args.length = k := by rfl) (h : args ++ List.replicate k .any = t := by simp only [List.replicate_succ, List.replicate_zero, List.cons_append, List.nil_append] <;> rfl) : args ++ List.replicate (fn.ntmps - args.length) .any = t := hk ▸ h
end
end Go.Proofs.YtliiphpbfambcaaGreatDoor.K
