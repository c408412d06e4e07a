/- What the machine's operations make of abstract values: those that write nothing that is there. Nothing here depends on the program. -/
import Derived.Test.YtjhfabimacljhaaKd
import Derived.Laws.Cells
import Derived.Laws.Rows
import Derived.Laws.CopyRow
import Derived.WideLaws
import Derived.Deep.WholeRow
namespace Go.Proofs.Ytjhfabimacljhaa.K
open Go Go.RowKit

/-- What is to be known of a type. -/
inductive Kind where
  | bool | int (k : IntKind) | str | slice (e : TypeId) | struct (fs : List (Nat × TypeId)) | ptr (e : TypeId) | other
structure TInfo where
  kind : Kind
  size : Nat
  bytes : Nat
  zero : List V
def Kind.fits : Kind → TypeDesc → Prop
  | .bool, d => d = .bool
  | .int k, d => d = .int k
  | .str, d => d = .string
  | .slice e, d => d = .slice e
  | .struct fs, .struct fields => fields.toList.map (fun f => (f.offset, f.type)) = fs
  | .struct _, _ => False
  | .ptr e, d => d = .pointer e
  | .other, _ => True
def Kind.isAgg : Kind → Bool
  | .struct _ => true
  | _ => false
def zeroOk : V → Value → Bool
  | .any, _ => true
  | .nil _, .slice none 0 0 => true
  | .int k n, .int k' n' => k == k' && n == n'
  | .bool b, .bool b' => b == b'
  | .str s, .string s' => s == s'.data.toList
  | .nilP, .pointer none => true
  | _, _ => false
def zerosOk : List V → List Value → Bool
  | [], [] => true
  | x :: xs, v :: vs => zeroOk x v && zerosOk xs vs
  | _, _ => false
structure TOk (P : Program) (t : TypeId) (i : TInfo) : Prop where
  und : ∃ d, P.underlying t = some d ∧ i.kind.fits d ∧ (i.kind.isAgg = false → (match d with | .struct _ | .array _ _ => true | _ => false) = false)
  inf : ∃ x, P.info? t = some x ∧ x.size = i.size ∧ x.bytes = i.bytes ∧ (i.zero ≠ [] → ∃ z, x.zero = some z ∧ zerosOk i.zero z.cells.toList = true)
abbrev Tab := TypeId → Option TInfo
def TabOk (P : Program) (ti : Tab) : Prop := ∀ t i, ti t = some i → TOk P t i

theorem zeroOk_M {base : Base} {σ : Sig} {w : World} {x : V} {v : Value} (h : zeroOk x v = true) : M base σ w x v := by
  unfold zeroOk at h
  split at h
  · exact .any _
  · exact .nil _ none
  · simp only [Bool.and_eq_true, beq_iff_eq] at h; obtain ⟨rfl, rfl⟩ := h; exact .int _ _
  · simp only [beq_iff_eq] at h; subst h; exact .bool _
  · simp only [beq_iff_eq] at h; subst h; exact .str _
  · exact .nilP
  · cases h
theorem zerosOk_Ms {base : Base} {σ : Sig} {w : World} : ∀ {t : List V} {l : List Value}, zerosOk t l = true → Ms base σ w t l
  | [], [], _ => ⟨rfl, by simp⟩
  | [], _ :: _, h => by simp [zerosOk] at h
  | _ :: _, [], h => by simp [zerosOk] at h
  | x :: xs, v :: vs, h => by
    simp only [zerosOk, Bool.and_eq_true] at h
    have ih := zerosOk_Ms (base := base) (σ := σ) (w := w) h.2
    refine ⟨by simp [ih.1], fun i y u hy hu => ?_⟩
    cases i with
    | zero =>
      obtain rfl := Option.some.inj hy
      obtain rfl := Option.some.inj hu
      exact zeroOk_M h.1
    | succ i => exact ih.2 i y u hy hu

/-- The cells of a value. -/
def cellsV : V → List V
  | .agg cs => cs
  | x => [x]
def V.known : V → Bool
  | .any => false
  | _ => true
theorem cells_M {base : Base} {σ : Sig} {w : World} {x : V} {v : Value} (hx : x.known = true) (h : M base σ w x v) : Ms base σ w (cellsV x) v.cells.toList := by
  cases h with
  | any => cases hx
  | agg cs vs h1 h6 => exact ⟨by simpa [Value.cells, cellsV] using h1, fun i y u hy hu => h6 i y u hy (by simpa [Value.cells] using hu)⟩
  | _ =>
    refine ⟨rfl, fun i y u hy hu => ?_⟩
    cases i with
    | succ i => simp [cellsV] at hy
    | zero =>
      obtain rfl := Option.some.inj hy
      obtain rfl := Option.some.inj hu
      first
        | exact .bool _ | exact .int _ _ | exact .str _ | exact .nil _ _ | exact .nilP
        | exact .sl _ _ _ _ _ _ _ (by assumption) (by assumption) (by assumption) (by assumption) (by assumption) (by assumption)
        | exact .ptr _ _ _ _ _ _ (by assumption) (by assumption) (by assumption)
        | exact .fn _ _ _ (by assumption) (by assumption)
        | exact .tup _ _ (by assumption) (by assumption)

/-- A value that lies in one cell. -/
def V.one : V → Bool
  | .any => false
  | .agg _ => false
  | .tup _ => false
  | _ => true
theorem one_cell {base : Base} {σ : Sig} {w : World} {x : V} {v : Value} (hx : x.one = true) (h : M base σ w x v) : v.oneCell' = true := by
  cases h <;> first | rfl | cases hx

/-- The naming with one block more. -/
def addSig (σ : Sig) (n b o sz : Nat) : Sig := fun L => if L = n then some (b, o, sz) else σ L
theorem addSig_self (σ : Sig) (n b o sz : Nat) : addSig σ n b o sz n = some (b, o, sz) := by simp [addSig]
theorem addSig_ne {σ : Sig} {n b o sz L : Nat} (h : L ≠ n) : addSig σ n b o sz L = σ L := by simp [addSig, h]
theorem Old.alloc {base : Base} {σ : Sig} {w : World} {k : Nat} (h : Old base σ w k) (ob : Obj) (n o sz : Nat) : Old base (addSig σ n w.heap.size o sz) (w.alloc ob) k := by
  refine ⟨by have := h.1; simp; omega, fun L b o' s hs => ?_, h.2.2⟩
  by_cases hL : L = n
  · subst hL
    rw [addSig_self] at hs
    obtain ⟨rfl, _⟩ : w.heap.size = b ∧ _ := by simpa using hs
    have := h.1
    omega
  · rw [addSig_ne hL] at hs
    exact h.2.1 L b o' s hs
theorem nf_zero (n : Nat) : Nf (0, 0) n := .inl (Nat.le_refl _)
theorem below_drew' {base : Nat} {w0 w : World} (h : Below base w0 w) (m : Nat) : Below base w0 (w.drewN m) := ⟨h.os, h.tape, h.output, h.size, h.block⟩

/-- What an operation leaves that writes nothing that is there: a value that reads as X, in new memory named from r on. -/
def New (base : Base) (σ : Sig) (w : World) (r c : Nat) (X : V) (u : Value) (w' : World) : Prop :=
  ∃ σ' : Sig, Below w.heap.size w w' ∧ (∀ L, ¬(r ≤ L ∧ L < r + c) → σ' L = σ L) ∧ (∀ L b o s, r ≤ L → L < r + c → σ' L = some (b, o, s) → w.heap.size ≤ b ∧ b < w'.heap.size) ∧
    (∀ L L' b o s o' s', r ≤ L → L < r + c → r ≤ L' → L' < r + c → σ' L = some (b, o, s) → σ' L' = some (b, o', s') → L = L') ∧ M base σ' w' X u
/-- An operation that writes nothing that is there. -/
def OpS (P : Program) (o : Oper) (t : List V) (r : Nat) (X : V) (c : Nat) : Prop :=
  ∀ base σ w (ρ : Operand → Value), base.lim ≤ w.heap.size → σ 0 = none → (∀ L b o s, σ L = some (b, o, s) → b < w.heap.size) → (∀ y, M base σ w (opnd t y) (ρ y)) → 1 ≤ r → (∀ L, r ≤ L → L < r + c → σ L = none) →
    (∃ u w', (execOp ρ o).run P w = .ok (.value u) w' ∧ New base σ w r c X u w') ∨
    (∃ f args, (execOp ρ o).run P w = .ok (.enter f args) w ∧ Calls P f args w fun e w' => ∃ u, e = .returned u ∧ New base σ w r c X u w')

section
variable {P : Program} {t h : List V} {n r c : Nat} {o : Oper} {X : V}
theorem New.keeps {base : Base} {σ : Sig} {w w' : World} {u : Value} (hw : New base σ w r c X u w') (ho : ∀ L b o s, σ L = some (b, o, s) → b < w.heap.size) (hf : ∀ L, r ≤ L → L < r + c → σ L = none) :
    ∃ σ', Keeps none base σ w σ' w' ∧ (∀ L, ¬(r ≤ L ∧ L < r + c) → σ' L = σ L) ∧ (∀ L b o s, r ≤ L → L < r + c → σ' L = some (b, o, s) → w.heap.size ≤ b ∧ b < w'.heap.size) ∧
      (∀ L L' b o s o' s', r ≤ L → L < r + c → r ≤ L' → L' < r + c → σ' L = some (b, o, s) → σ' L' = some (b, o', s') → L = L') ∧ M base σ' w' X u ∧ Below w.heap.size w w' := by
  obtain ⟨σ', bel, h1, h2, h3, h4⟩ := hw
  refine ⟨σ', ⟨fun k hk => ⟨⟨by have := hk.1; have := bel.size; omega, fun L b o s hs => ?_, hk.2.2⟩, bel.block k hk.1⟩, fun L b o s _ hs => ⟨?_, bel.block b (ho L b o s hs)⟩⟩, h1, h2, h3, h4, bel⟩
  · by_cases hin : r ≤ L ∧ L < r + c
    · have := (h2 L b o s hin.1 hin.2 hs).1
      have := hk.1
      omega
    · rw [h1 L hin] at hs
      exact hk.2.1 L b o s hs
  · rw [h1 L]
    · exact hs
    · rintro ⟨ha, hb'⟩
      rw [hf L ha hb'] at hs
      cases hs
theorem Below.after {b : Nat} {w0 w w' : World} (h1 : Below b w0 w) (h2 : Below w.heap.size w w') (hb : b ≤ w.heap.size) : Below b w0 w' :=
  ⟨h2.os.trans h1.os, h2.tape.trans h1.tape, h2.output.trans h1.output, Nat.le_trans h1.size h2.size, fun k hk => (h2.block k (by omega)).trans (h1.block k hk)⟩

/-- In a frame, the labels from r on being free: what it leaves. -/
theorem OpS.run (hs : OpS P o t r X c) {base : Base} {w0 : World} {hv : List Value} {t2 h2 : List V} {N : Nat} {σ : Sig} {a : Act} {w : World} (g : Good base w0 hv t2 h2 N σ a w) (hr : 1 ≤ r) (hf : ∀ L, r ≤ L → L < r + c → σ L = none)
    (ht : ∀ y, M base σ w (opnd t y) (a.eval y)) (K : Act → World → Prop) (Q : Exit → Act → World → Prop)
    (hK : ∀ σ' a' w', Good base w0 hv (putV t2 o.dst X) h2 (max N (r + c)) σ' a' w' → (∀ L, ¬(r ≤ L ∧ L < r + c) → σ' L = σ L) → K a' w') : o.wp P a w K Q := by
  have fin : ∀ u w', New base σ w r c X u w' → K (a.put o.dst u) w' := by
    intro u w' hn
    obtain ⟨σ', hk, h1, h2, h3, h4, bel⟩ := hn.keeps (fun L b o s h => (g.inv.own L b o s h).2) hf
    refine hK σ' _ w' ⟨(g.ts.keep hk).put _ h4, g.hs.keep hk, by cases o.dst <;> exact g.dfr, Below.after g.bel bel g.inv.bs, ⟨Nat.le_trans g.inv.bs bel.size, by have := g.inv.pos; omega, ?_, ?_, ?_, ?_⟩⟩ h1
    · rw [h1 0 (by omega)]; exact g.inv.zero
    · intro L hL
      rw [h1 L (by omega)]
      exact g.inv.fresh L (by omega)
    · intro L b o s hL
      by_cases hin : r ≤ L ∧ L < r + c
      · have := h2 L b o s hin.1 hin.2 hL
        have := g.inv.bs
        omega
      · rw [h1 L hin] at hL
        have := g.inv.own L b o s hL
        have := bel.size
        omega
    · intro L L' b o s o' s' hL hL'
      by_cases hin : r ≤ L ∧ L < r + c <;> by_cases hin' : r ≤ L' ∧ L' < r + c
      · exact h3 L L' b o s o' s' hin.1 hin.2 hin'.1 hin'.2 hL hL'
      · rw [h1 L' hin'] at hL'
        have := (g.inv.own L' b o' s' hL').2
        have := (h2 L b o s hin.1 hin.2 hL).1
        omega
      · rw [h1 L hin] at hL
        have := (g.inv.own L b o s hL).2
        have := (h2 L' b o' s' hin'.1 hin'.2 hL').1
        omega
      · rw [h1 L hin] at hL
        rw [h1 L' hin'] at hL'
        exact g.inv.inj L L' b o s o' s' hL hL'
  unfold Oper.wp
  rcases hs base σ w a.eval g.inv.bs g.inv.zero (fun L b o s h => (g.inv.own L b o s h).2) ht hr hf with ⟨u, w', hrun, hn⟩ | ⟨f, args, hrun, hc⟩
  · rw [hrun]
    exact fin u w' hn
  · rw [hrun, Oper.upon_enter]
    refine hc.mono ?_
    rintro e w' ⟨u, rfl, hn⟩
    exact fin u w' hn
theorem OpS.ok (hs : OpS P o t n X c) : OpOk P o t h n (putV t o.dst X) h (n + c) := by
  intro base w0 hv σ a w g K Q hK
  refine hs.run g g.inv.pos (fun L h1 _ => g.inv.fresh L h1) (fun y => opnd_M g.ts y) K Q fun σ' a' w' g' _ => ?_
  rw [show max n (n + c) = n + c by omega] at g'
  exact hK σ' a' w' g'

/-- An operation that gives a value and turns nothing. -/
theorem OpS.val (hr : ∀ base σ w (ρ : Operand → Value), (∀ y, M base σ w (opnd t y) (ρ y)) → ∃ v, (execOp ρ o).run P w = .ok (.value v) w ∧ M base σ w X v) : OpS P o t r X 0 := by
  intro base σ w ρ _ _ _ hρ _ _
  obtain ⟨v, h1, h2⟩ := hr base σ w ρ hρ
  exact .inl ⟨v, w, h1, σ, Below.refl _ _, fun _ _ => rfl, fun L _ _ _ h1 h2 => by omega, fun _ _ _ _ _ _ _ h1 h2 => by omega, h2⟩
/-- An operation that makes one block: a variable of cells e. -/
theorem OpS.newVar {e : List V} (hx : X = .ptr r 0 0 e)
    (hr : ∀ base σ w (ρ : Operand → Value), (∀ y, M base σ w (opnd t y) (ρ y)) → ∃ cs ty, (execOp ρ o).run P w = .ok (.value (.pointer (some ⟨w.heap.size, 0, none⟩))) (w.alloc (.cells cs ty)) ∧ Ms base σ w e cs.toList) :
    OpS P o t r X 1 := by
  subst hx
  intro base σ w ρ _ _ ho hρ _ hf
  obtain ⟨cs, ty, hrun, hm⟩ := hr base σ w ρ hρ
  have hfr : σ r = none := hf r (Nat.le_refl _) (by omega)
  have hk : Keeps none base σ w (addSig σ r w.heap.size 0 e.length) (w.alloc (.cells cs ty)) := by
    refine ⟨fun k hk => ⟨Old.alloc hk _ _ _ _, Below.heap_alloc w _ k hk.1⟩, fun L b o' s _ h => ⟨?_, Below.heap_alloc w _ b (ho L b o' s h)⟩⟩
    rw [addSig_ne]
    · exact h
    · rintro rfl
      rw [hfr] at h
      cases h
  have hlen : e.length = cs.size := by simpa using hm.1
  have hsz : (w.alloc (.cells cs ty)).heap.size = w.heap.size + 1 := by simp
  refine .inl ⟨_, _, hrun, addSig σ r w.heap.size 0 e.length, (Below.refl _ _).alloc (Nat.le_refl _) _, fun L hL => addSig_ne (by omega), ?_, fun L L' b o s o' s' h1 h2 h3 h4 _ _ => by omega, ?_⟩
  · intro L b o' s h1 h2 h
    obtain rfl : L = r := by omega
    rw [addSig_self] at h
    obtain ⟨rfl, _⟩ : w.heap.size = b ∧ _ := by simpa using h
    omega
  have hadd : (⟨w.heap.size, 0, none⟩ : Addr) = (⟨w.heap.size, 0, none⟩ : Addr).add 0 := rfl
  rw [hadd]
  have hat : At base (addSig σ r w.heap.size 0 e.length) (w.alloc (.cells cs ty)) r e.length (0 * e.length) e.length ⟨w.heap.size, 0, none⟩ :=
    .inr ⟨w.heap.size, 0, cs, ty, (0, 0), addSig_self _ _ _ _ _, by simp, heap_alloc_new w _, nf_zero _, by simp [hlen]⟩
  refine .ptr r 0 0 e ⟨w.heap.size, 0, none⟩ (fun c => cs.toList.getD c undef) hat ?_ ?_
  · intro c x hc
    have hlt : c < cs.toList.length := by have := (List.getElem?_eq_some_iff.1 hc).1; have := hm.1; omega
    rw [add_none, cell_at (heap_alloc_new w _)]
    rw [List.getD_eq_getElem?_getD, List.getElem?_eq_getElem hlt]
    have hlt' : c < cs.size := by simpa using hlt
    simp [hlt']
  · intro c x hc
    have hlt : c < cs.toList.length := by have := (List.getElem?_eq_some_iff.1 hc).1; have := hm.1; omega
    rw [List.getD_eq_getElem?_getD, List.getElem?_eq_getElem hlt]
    exact (hm.2 c x _ hc (List.getElem?_eq_getElem hlt)).keep' hk

/-- An operation that makes a slice of new memory, maybe behind some draws: m elements es of sz cells, room for cap. -/
theorem OpS.newSlice {sz : Nat} {es : List (List V)} (hx : X = .sl r sz 0 es) (hsz : ∀ e ∈ es, e.length = sz)
    (hr : ∀ base σ w (ρ : Operand → Value), (∀ y, M base σ w (opnd t y) (ρ y)) → ∃ cs ty fr m cap, (execOp ρ o).run P w = .ok (.value (.slice (some ⟨w.heap.size, 0, none⟩) es.length cap)) ((w.drewN m).alloc (.cells cs ty fr)) ∧
      Nf fr cs.size ∧ es.length ≤ cap ∧ cap ≤ maxLen ∧ cap * sz ≤ cs.size ∧
      ∀ (j : Nat) e (c : Nat) y, es[j]? = some e → e[c]? = some y → ∃ u, cs[j * sz + c]? = some u ∧ M base σ w y u) :
    OpS P o t r X 1 := by
  subst hx
  intro base σ w ρ _ _ ho hρ _ hf
  obtain ⟨cs, ty, fr, m, cap, hrun, hnf, hc1, hc2, hc3, hm⟩ := hr base σ w ρ hρ
  have hfr : σ r = none := hf r (Nat.le_refl _) (by omega)
  have hk0 : Keeps none base σ w σ (w.drewN m) := ⟨fun _ h => ⟨h, rfl⟩, fun _ _ _ _ _ h => ⟨h, rfl⟩⟩
  have hk : Keeps none base σ (w.drewN m) (addSig σ r w.heap.size 0 sz) ((w.drewN m).alloc (.cells cs ty fr)) := by
    refine ⟨fun k hk => ⟨Old.alloc (w := w.drewN m) hk _ _ _ _, Below.heap_alloc (w.drewN m) _ k hk.1⟩, fun L b o' s _ h => ⟨?_, Below.heap_alloc (w.drewN m) _ b (ho L b o' s h)⟩⟩
    rw [addSig_ne]
    · exact h
    · rintro rfl
      rw [hfr] at h
      cases h
  have hsz' : ((w.drewN m).alloc (.cells cs ty fr)).heap.size = w.heap.size + 1 := by simp [World.drewN]
  refine .inl ⟨_, _, hrun, addSig σ r w.heap.size 0 sz, (below_drew' (Below.refl _ _) m).alloc (Nat.le_refl _) _, fun L hL => addSig_ne (by omega), ?_, fun L L' b o s o' s' h1 h2 h3 h4 _ _ => by omega, ?_⟩
  · intro L b o' s h1 h2 h
    obtain rfl : L = r := by omega
    rw [addSig_self] at h
    obtain ⟨rfl, _⟩ : w.heap.size = b ∧ _ := by simpa using h
    omega
  have hat : At base (addSig σ r w.heap.size 0 sz) ((w.drewN m).alloc (.cells cs ty fr)) r sz (0 * sz) (cap * sz) ⟨w.heap.size, 0, none⟩ :=
    .inr ⟨w.heap.size, 0, cs, ty, fr, addSig_self _ _ _ _ _, by simp, heap_alloc_new (w.drewN m) _, hnf, by simpa using hc3⟩
  refine .sl r sz 0 es _ cap (fun j c => (cs[j * sz + c]?).getD undef) hc1 hc2 hsz (.inr (.inr ⟨_, rfl, hat⟩)) ?_ ?_
  · intro ad hA j e c y hj hc
    obtain rfl := Option.some.inj hA
    obtain ⟨u, hu, _⟩ := hm j e c y hj hc
    have hcell : ∀ q, ((w.drewN m).alloc (.cells cs ty fr)).cell? ⟨w.heap.size, q, none⟩ = cs[q]? := fun q => cell_at (b := w.heap.size) (heap_alloc_new (w.drewN m) _) q
    rw [add_none, hcell, Nat.zero_add]
    simp only [hu, Option.getD_some]
  · intro j e c y hj hc
    obtain ⟨u, hu, hmu⟩ := hm j e c y hj hc
    simp only [hu, Option.getD_some]
    exact (hmu.keep' hk0).keep' hk
/-- An empty slice without room, maybe behind a new block. -/
theorem OpS.newNil {sz : Nat} (hx : X = .nil sz) (hr : ∀ base σ w (ρ : Operand → Value), (∀ y, M base σ w (opnd t y) (ρ y)) → ∃ A ob m, (execOp ρ o).run P w = .ok (.value (.slice A 0 0)) ((w.drewN m).alloc ob)) : OpS P o t r X 0 := by
  subst hx
  intro base σ w ρ _ _ _ hρ _ _
  obtain ⟨A, ob, m, h1⟩ := hr base σ w ρ hρ
  exact .inl ⟨_, _, h1, σ, (below_drew' (Below.refl _ _) m).alloc (Nat.le_refl _) _, fun _ _ => rfl, fun L _ _ _ h1 h2 => by omega, fun _ _ _ _ _ _ _ h1 h2 => by omega, .nil _ _⟩
end
end Go.Proofs.Ytjhfabimacljhaa.K
