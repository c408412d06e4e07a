/- The judgement over abstract frames, and its rules for the code's forms. Nothing here depends on the program. -/
import Derived.Test.YtjhfabimacljhaaKc
import Derived.Deep.LoopGhost
import Derived.Deep.Draws
import Derived.Scope
import Derived.Tactics
namespace Go.Proofs.Ytjhfabimacljhaa.K
open Go Go.RowKit

structure Inv (base : Base) (σ : Sig) (w : World) (n : Nat) : Prop where
  bs : base.lim ≤ w.heap.size
  pos : 1 ≤ n
  zero : σ 0 = none
  fresh : ∀ L, n ≤ L → σ L = none
  own : ∀ L b o s, σ L = some (b, o, s) → base.lim ≤ b ∧ b < w.heap.size
  inj : Inj σ

/-- The frame's slots read as t, the values hv of the callers as h; what was below base is as it was. -/
structure Good (base : Base) (w0 : World) (hv : List Value) (t h : List V) (n : Nat) (σ : Sig) (a : Act) (w : World) : Prop where
  ts : Ms base σ w t a.tmps.toList
  hs : Ms base σ w h hv
  dfr : a.defers = []
  bel : Below base.lim w0 w
  inv : Inv base σ w n

/-- What holds at an end of the code. -/
def Post (base : Base) (w0 : World) (hv : List Value) (Q : Exit → List V → List V → Nat → Prop) : Exit → Act → World → Prop :=
  fun e a' w' => ∃ t' h' n' σ', Q e t' h' n' ∧ Good base w0 hv t' h' n' σ' a' w'
def Ok (P : Program) (c : Code) (t h : List V) (n : Nat) (Q : Exit → List V → List V → Nat → Prop) : Prop :=
  ∀ base w0 hv σ a w, Good base w0 hv t h n σ a w → c.wp P (Post base w0 hv Q) a w

/-- Go on where the code came to its end, else what holds anyway. -/
def thenQ (K : List V → List V → Nat → Prop) (Q : Exit → List V → List V → Nat → Prop) : Exit → List V → List V → Nat → Prop
  | .normal => K
  | e => Q e

section
variable {P : Program} {t h : List V} {n : Nat} {Q : Exit → List V → List V → Nat → Prop}

theorem Ok.mono {c : Code} {Q' : Exit → List V → List V → Nat → Prop} (hk : Ok P c t h n Q) (hq : ∀ e t h n, Q e t h n → Q' e t h n) : Ok P c t h n Q' :=
  fun base w0 hv σ a w g => wp_mono (hk base w0 hv σ a w g) fun _ _ _ ⟨t', h', n', σ', q, g'⟩ => ⟨t', h', n', σ', hq _ _ _ _ q, g'⟩

theorem Ok.seq {x y : Code} (hk : Ok P x t h n (thenQ (fun t' h' n' => Ok P y t' h' n' Q) Q)) : Ok P (.seq x y) t h n Q := by
  intro base w0 hv σ a w g
  refine wp_seq (wp_mono (hk base w0 hv σ a w g) ?_)
  rintro e a' w' ⟨t', h', n', σ', q, g'⟩
  cases e with
  | normal => exact q base w0 hv σ' a' w' g'
  | exit id => exact ⟨t', h', n', σ', q, g'⟩
  | goto l => exact ⟨t', h', n', σ', q, g'⟩
  | ret => exact ⟨t', h', n', σ', q, g'⟩
  | panic ch => exact ⟨t', h', n', σ', q, g'⟩
  | outgrown => exact ⟨t', h', n', σ', q, g'⟩

theorem Ok.skip (hq : Q .normal t h n) : Ok P .skip t h n Q := fun _ _ _ σ _ _ g => wp_skip ⟨t, h, n, σ, hq, g⟩
theorem Ok.label {l : Nat} (hq : Q .normal t h n) : Ok P (.label l) t h n Q := fun _ _ _ σ _ _ g => wp_label ⟨t, h, n, σ, hq, g⟩
theorem Ok.exit {id : Nat} (hq : Q (.exit id) t h n) : Ok P (.exit id) t h n Q := fun _ _ _ σ _ _ g => wp_exit ⟨t, h, n, σ, hq, g⟩
theorem Ok.ret (hq : Q .ret t h n) : Ok P .ret t h n Q := fun _ _ _ σ _ _ g => wp_ret ⟨t, h, n, σ, hq, g⟩

def blockQ (id : Nat) (Q : Exit → List V → List V → Nat → Prop) : Exit → List V → List V → Nat → Prop
  | .exit id' => if id' = id then Q .normal else Q (.exit id')
  | e => Q e
theorem Ok.block {id : Nat} {c : Code} (hk : Ok P c t h n (blockQ id Q)) : Ok P (.block id c) t h n Q := by
  intro base w0 hv σ a w g
  refine wp_block (wp_mono (hk base w0 hv σ a w g) ?_)
  rintro e a' w' ⟨t', h', n', σ', q, g'⟩
  cases e with
  | normal => exact ⟨t', h', n', σ', q, g'⟩
  | exit id' =>
    simp only [blockQ] at q
    simp only [Exit.inBlock]
    split at q
    · rw [if_pos (by assumption)]; exact ⟨t', h', n', σ', q, g'⟩
    · rw [if_neg (by assumption)]; exact ⟨t', h', n', σ', q, g'⟩
  | goto l => exact ⟨t', h', n', σ', q, g'⟩
  | ret => exact ⟨t', h', n', σ', q, g'⟩
  | panic ch => exact ⟨t', h', n', σ', q, g'⟩
  | outgrown => exact ⟨t', h', n', σ', q, g'⟩

/-- A loop: I x tells the slots at a round's head, each round lowers m. -/
theorem Ok.loop {τ : Type} {c : Code} (I : τ → List V → List V → Nat → Prop) (m : τ → Nat) (x : τ) (h0 : I x t h n)
    (round : ∀ x t h n, I x t h n → Ok P c t h n (thenQ (fun t' h' n' => ∃ y, I y t' h' n' ∧ m y < m x) Q)) : Ok P (.loop c) t h n Q := by
  intro base w0 hv σ a w g
  refine wp_loop_ghost (fun k a w => ∃ x t h n σ, m x = k ∧ I x t h n ∧ Good base w0 hv t h n σ a w) (m x) ⟨x, t, h, n, σ, rfl, h0, g⟩ ?_
  rintro k a w ⟨x, t, h, n, σ, rfl, hI, g⟩
  refine wp_mono (round x t h n hI base w0 hv σ a w g) ?_
  rintro e a' w' ⟨t', h', n', σ', q, g'⟩
  cases e with
  | normal => obtain ⟨y, hy, hlt⟩ := q; exact ⟨m y, hlt, y, t', h', n', σ', rfl, hy, g'⟩
  | exit id => exact ⟨t', h', n', σ', q, g'⟩
  | goto l => exact ⟨t', h', n', σ', q, g'⟩
  | ret => exact ⟨t', h', n', σ', q, g'⟩
  | panic ch => exact ⟨t', h', n', σ', q, g'⟩
  | outgrown => exact ⟨t', h', n', σ', q, g'⟩

/-- The slot t's i-th reading. -/
def nth : List V → Nat → V
  | [], _ => .any
  | x :: _, 0 => x
  | _ :: l, i + 1 => nth l i
theorem nth_eq (l : List V) (i : Nat) : nth l i = l.getD i .any := by
  induction l generalizing i with
  | nil => rfl
  | cons x l ih => cases i with
    | zero => rfl
    | succ i => simp [nth, ih]
def constV : Value → V
  | .int k n => .int k n
  | .bool b => .bool b
  | .string s => .str s.data.toList
  | .slice none 0 0 => .nil 0
  | .pointer none => .nilP
  | _ => .any
def opnd (t : List V) : Operand → V
  | .tmp i => nth t i
  | .const v => constV v
  | .func f => .fn f []
  | .global _ => .any

theorem constV_M (base : Base) (σ : Sig) (w : World) (v : Value) : M base σ w (constV v) v := by
  unfold constV
  split
  · exact .int _ _
  · exact .bool _
  · rename_i s; exact .str s.data.toList
  · exact .nil 0 none
  · exact .nilP
  · exact .any _
theorem opnd_M {base : Base} {σ : Sig} {w : World} {a : Act} (ht : Ms base σ w t a.tmps.toList) (x : Operand) : M base σ w (opnd t x) (a.eval x) := by
  cases x with
  | tmp i =>
    show M base σ w (nth t i) (a.tmps.getD i undef)
    rw [nth_eq]
    by_cases hi : i < t.length
    · have h1 : t[i]? = some t[i] := List.getElem?_eq_getElem hi
      have hl : i < a.tmps.toList.length := ht.1 ▸ hi
      have h2 : a.tmps.toList[i]? = some a.tmps.toList[i] := List.getElem?_eq_getElem hl
      have hm := ht.2 i _ _ h1 h2
      have e1 : t.getD i .any = t[i] := by simp [List.getD_eq_getElem?_getD, h1]
      have e2 : a.tmps.getD i undef = a.tmps.toList[i] := by
        have : i < a.tmps.size := by simpa using hl
        simp [Array.getD, this]
      rw [e1, e2]; exact hm
    · rw [List.getD_eq_getElem?_getD, List.getElem?_eq_none (Nat.le_of_not_lt hi)]
      exact .any _
  | const v => exact constV_M base σ w v
  | func f => exact .fn f [] [] rfl (by simp)
  | global g => exact .any _

theorem Ok.cond {c : Operand} {x y : Code} {b : Bool} (hc : opnd t c = .bool b) (hx : b = true → Ok P x t h n Q) (hy : b = false → Ok P y t h n Q) : Ok P (.cond c x y) t h n Q := by
  intro base w0 hv σ a w g
  have hm := opnd_M g.ts c
  rw [hc] at hm
  have hv' : a.eval c = .bool b := by generalize a.eval c = v at hm; cases hm; rfl
  exact wp_cond_split hv' (fun e => hx e base w0 hv σ a w g) (fun e => hy e base w0 hv σ a w g)
theorem Ok.cond_true {c : Operand} {x y : Code} (hc : opnd t c = .bool true) (hx : Ok P x t h n Q) : Ok P (.cond c x y) t h n Q := Ok.cond hc (fun _ => hx) (fun e => by cases e)
theorem Ok.cond_false {c : Operand} {x y : Code} (hc : opnd t c = .bool false) (hy : Ok P y t h n Q) : Ok P (.cond c x y) t h n Q := Ok.cond hc (fun e => by cases e) (fun _ => hy)

/-- A slot is filled. -/
def putV (t : List V) : Option Tmp → V → List V
  | some d, v => t.set d v
  | none, _ => t
theorem Ms.put {base : Base} {σ : Sig} {w : World} {a : Act} (ht : Ms base σ w t a.tmps.toList) (d : Option Tmp) {x : V} {v : Value} (hv : M base σ w x v) : Ms base σ w (putV t d x) (a.put d v).tmps.toList := by
  cases d with
  | none => exact ht
  | some d =>
    show Ms base σ w (t.set d x) (a.tmps.setIfInBounds d v).toList
    rw [Array.toList_setIfInBounds]
    refine ⟨by rw [List.length_set, List.length_set]; exact ht.1, fun i y u hy hu => ?_⟩
    rw [List.getElem?_set] at hy hu
    by_cases hd : d = i
    · subst hd
      rw [if_pos rfl] at hy hu
      split at hy
      · split at hu
        · obtain rfl := Option.some.inj hy
          obtain rfl := Option.some.inj hu
          exact hv
        · cases hu
      · cases hy
    · rw [if_neg hd] at hy hu
      exact ht.2 i y u hy hu

/-- What is told of a slot less than it was is told rightly. -/
def V.le : V → V → Prop := fun x y => x = y ∨ y = .any ∨ ∃ L sz, x = .nil sz ∧ y = .sl L sz 0 []
theorem Ok.forget {c : Code} {t' : List V} (hl : t.length = t'.length) (hle : ∀ (i : Nat) x y, t[i]? = some x → t'[i]? = some y → V.le x y) (hk : Ok P c t' h n Q) : Ok P c t h n Q := by
  intro base w0 hv σ a w g
  refine hk base w0 hv σ a w ⟨⟨by rw [← hl]; exact g.ts.1, fun i y u hy hu => ?_⟩, g.hs, g.dfr, g.bel, g.inv⟩
  have hi : i < t.length := by have := (List.getElem?_eq_some_iff.1 hy).1; omega
  have h1 : t[i]? = some t[i] := List.getElem?_eq_getElem hi
  rcases hle i _ y h1 hy with rfl | rfl | ⟨L, sz, he, rfl⟩
  · exact g.ts.2 i _ u h1 hu
  · exact .any _
  · have hm := g.ts.2 i _ u h1 hu
    rw [he] at hm
    cases hm with
    | nil _ A => exact .sl L sz 0 [] A 0 (fun _ _ => undef) (Nat.le_refl _) (Nat.zero_le _) (by simp) (.inr (.inl rfl)) (by simp) (by simp)
/-- Labels may be passed over. -/
theorem Ok.bump {c : Code} {n' : Nat} (hn : n ≤ n') (hk : Ok P c t h n' Q) : Ok P c t h n Q :=
  fun base w0 hv σ a w g => hk base w0 hv σ a w ⟨g.ts, g.hs, g.dfr, g.bel, ⟨g.inv.bs, by have := g.inv.pos; omega, g.inv.zero, fun L hL => g.inv.fresh L (by omega), g.inv.own, g.inv.inj⟩⟩
end

/-- One operation: whatever holds of the next state holds behind it. -/
def OpOk (P : Program) (o : Oper) (t h : List V) (n : Nat) (t' h' : List V) (n' : Nat) : Prop :=
  ∀ base w0 hv σ a w, Good base w0 hv t h n σ a w → ∀ (K : Act → World → Prop) (Q : Exit → Act → World → Prop),
    (∀ σ' a' w', Good base w0 hv t' h' n' σ' a' w' → K a' w') → o.wp P a w K Q
/-- Operations one behind the other. -/
def OkOps (P : Program) (ops : Array Oper) (l : List Oper) (t h : List V) (n : Nat) (Q : Exit → List V → List V → Nat → Prop) : Prop :=
  ∀ base w0 hv σ a w, Good base w0 hv t h n σ a w → wpList P ops (Post base w0 hv Q) l a w

section
variable {P : Program} {t h : List V} {n : Nat} {Q : Exit → List V → List V → Nat → Prop} {ops : Array Oper} {o : Oper} {l : List Oper}
theorem Ok.region {id : Nat} {l : List Oper} (hk : OkOps P l.toArray l t h n Q) : Ok P (.region id l.toArray false) t h n Q :=
  fun base w0 hv σ a w g => wp_region_lit (hk base w0 hv σ a w g)
theorem OkOps.nil (hq : Q .normal t h n) : OkOps P ops [] t h n Q := fun _ _ _ σ _ _ g => wpList_nil ⟨t, h, n, σ, hq, g⟩

theorem wanted_none {o : Oper} (hg : o.guard = none) (y : Nat → Option Bool) : Region.wanted o y = true := by simp [Region.wanted, hg]
theorem OkOps.step {t' h' : List V} {n' : Nat} (hg : o.guard = none) (ho : OpOk P o t h n t' h' n') (hk : OkOps P ops l t' h' n' Q) : OkOps P ops (o :: l) t h n Q := by
  intro base w0 hv σ a w g
  unfold wpList
  rw [if_pos (wanted_none hg _)]
  exact .inl (ho base w0 hv σ a w g _ _ fun σ' a' w' g' => hk base w0 hv σ' a' w' g')

/-- The guard's slot. -/
theorem yielded_of {base : Base} {σ : Sig} {w : World} {a : Act} (ht : Ms base σ w t a.tmps.toList) {j d : Nat} {b : Bool} (hd : (ops[j]?).bind (·.dst) = some d) (hb : nth t d = .bool b) : yielded ops a.tmps j = some b := by
  unfold yielded
  rw [hd]
  show (match a.tmps[d]? with | some (.bool b) => some b | _ => none) = some b
  rw [nth_eq] at hb
  have hi : d < t.length := by
    rcases Nat.lt_or_ge d t.length with h | h
    · exact h
    · rw [List.getD_eq_getElem?_getD, List.getElem?_eq_none h] at hb; cases hb
  have h1 : t[d]? = some t[d] := List.getElem?_eq_getElem hi
  have hl : d < a.tmps.toList.length := by have := ht.1; omega
  have h2 : a.tmps.toList[d]? = some a.tmps.toList[d] := List.getElem?_eq_getElem hl
  have hm := ht.2 d _ _ h1 h2
  have e1 : t.getD d .any = t[d] := by simp [List.getD_eq_getElem?_getD, h1]
  rw [← e1, hb] at hm
  have e2 : a.tmps[d]? = some a.tmps.toList[d] := by
    have : d < a.tmps.size := by simpa using hl
    simp [this]
  rw [e2]
  generalize a.tmps.toList[d] = v at hm
  cases hm
  rfl
theorem OkOps.guard {t' h' : List V} {n' : Nat} {j d : Nat} {b want : Bool} (hg : o.guard = some (j, want)) (hd : (ops[j]?).bind (·.dst) = some d) (hb : nth t d = .bool b)
    (hon : b = want → OpOk P o t h n t' h' n' ∧ OkOps P ops l t' h' n' Q) (hoff : b = !want → OkOps P ops l (putV t o.dst .any) h n Q) : OkOps P ops (o :: l) t h n Q := by
  intro base w0 hv σ a w g
  have hy := yielded_of (ops := ops) g.ts hd hb
  have hw : Region.wanted o (yielded ops a.tmps) = (b == want) := by
    simp only [Region.wanted, hg, hy]
    cases b <;> cases want <;> rfl
  unfold wpList
  rw [hw]
  by_cases hbw : b = want
  · obtain ⟨ho, hk⟩ := hon hbw
    rw [if_pos (by simp [hbw])]
    exact .inl (ho base w0 hv σ a w g _ _ fun σ' a' w' g' => hk base w0 hv σ' a' w' g')
  · rw [if_neg (by simp [hbw])]
    exact hoff (by cases b <;> cases want <;> simp_all) base w0 hv σ _ w ⟨g.ts.put _ (.any _), g.hs, by cases o.dst <;> exact g.dfr, g.bel, g.inv⟩

/-- An operation that gives a value and leaves the world. -/
theorem OpOk.value {x : V} (hr : ∀ base w0 hv σ a w, Good base w0 hv t h n σ a w → ∃ v m, (execOp a.eval o).run P w = .ok (.value v) (w.drewN m) ∧ M base σ w x v) : OpOk P o t h n (putV t o.dst x) h n := by
  intro base w0 hv σ a w g K Q hK
  obtain ⟨v, m, hrun, hm⟩ := hr base w0 hv σ a w g
  have hk : Keeps none base σ w σ (w.drewN m) := ⟨fun _ h => ⟨h, rfl⟩, fun _ _ _ _ _ h => ⟨h, rfl⟩⟩
  unfold Oper.wp
  rw [hrun]
  exact hK σ _ _ ⟨(g.ts.put _ hm).keep hk, g.hs.keep hk, by cases o.dst <;> exact g.dfr, ⟨g.bel.os, g.bel.tape, g.bel.output, g.bel.size, g.bel.block⟩, ⟨g.inv.bs, g.inv.pos, g.inv.zero, g.inv.fresh, g.inv.own, g.inv.inj⟩⟩
end
end Go.Proofs.Ytjhfabimacljhaa.K
