/- The abstract values of this claim's proof: values with their content inline, labels for blocks of the call's own, and what it means that a value of the machine reads as one. Nothing here depends on the program. -/
import Derived.Below
import Derived.WalkKit
namespace Go.Proofs.Ytjhfabimacljhaa.K
open Go Go.RowKit

/-- An abstract value. 'sl L sz off es': a slice of the array with label L (0: memory that nobody writes), whose elements have sz cells each, from element off on, with its elements. 'ptr L i o e': a pointer to cell o of element i (with cells e) of the array L. -/
inductive V where
  | any
  | bool (b : Bool)
  | int (k : IntKind) (n : Int)
  | str (s : List UInt8)
  | nil (sz : Nat)
  | sl (L sz off : Nat) (es : List (List V))
  | nilP
  | ptr (L i o : Nat) (e : List V)
  | fn (f : Nat) (caps : List V)
  | agg (cs : List V)
  | tup (vs : List V)
  deriving Inhabited

mutual
/-- Every slice and every pointer is handed to a function, what is inside first. -/
def V.trav (f0 : Nat → V) (fs : Nat → Nat → Nat → List (List V) → V) (fp : Nat → Nat → Nat → List V → V) : V → V
  | .sl L sz off es => fs L sz off (V.travLL f0 fs fp es)
  | .ptr L i o e => fp L i o (V.travL f0 fs fp e)
  | .fn f caps => .fn f (V.travL f0 fs fp caps)
  | .agg cs => .agg (V.travL f0 fs fp cs)
  | .tup vs => .tup (V.travL f0 fs fp vs)
  | .any => .any
  | .bool b => .bool b
  | .int k n => .int k n
  | .str s => .str s
  | .nil sz => f0 sz
  | .nilP => .nilP
def V.travL (f0 : Nat → V) (fs : Nat → Nat → Nat → List (List V) → V) (fp : Nat → Nat → Nat → List V → V) : List V → List V
  | [] => []
  | x :: xs => V.trav f0 fs fp x :: V.travL f0 fs fp xs
def V.travLL (f0 : Nat → V) (fs : Nat → Nat → Nat → List (List V) → V) (fp : Nat → Nat → Nat → List V → V) : List (List V) → List (List V)
  | [] => []
  | e :: es => V.travL f0 fs fp e :: V.travLL f0 fs fp es
end

/-- A store: element i of the array L has cells e now. -/
def updS (L i : Nat) (e' : List V) (M sz off : Nat) (es : List (List V)) : V :=
  if M = L ∧ off ≤ i then .sl M sz off (es.set (i - off) e') else .sl M sz off es
def updP (L i : Nat) (e' : List V) (M j o : Nat) (e : List V) : V :=
  if M = L ∧ j = i then .ptr M j o e' else .ptr M j o e
def V.upd (L i : Nat) (e' : List V) : V → V := V.trav V.nil (updS L i e') (updP L i e')
def V.updL (L i : Nat) (e' : List V) : List V → List V := V.travL V.nil (updS L i e') (updP L i e')
def V.updLL (L i : Nat) (e' : List V) : List (List V) → List (List V) := V.travLL V.nil (updS L i e') (updP L i e')
/-- The array L is not to be looked at any more. -/
def killS (L : Nat) (M sz off : Nat) (es : List (List V)) : V := if M = L then .any else .sl M sz off es
def killP (L : Nat) (M j o : Nat) (e : List V) : V := if M = L then .any else .ptr M j o e
def V.kill (L : Nat) : V → V := V.trav V.nil (killS L) (killP L)
def V.killL (L : Nat) : List V → List V := V.travL V.nil (killS L) (killP L)
def V.killLL (L : Nat) : List (List V) → List (List V) := V.travLL V.nil (killS L) (killP L)
/-- Without labels. -/
def V.erase : V → V := V.trav (fun sz => .sl 0 sz 0 []) (fun _ sz _ es => .sl 0 sz 0 es) (fun _ _ o e => .ptr 0 0 o e)
def V.eraseL : List V → List V := V.travL (fun sz => .sl 0 sz 0 []) (fun _ sz _ es => .sl 0 sz 0 es) (fun _ _ o e => .ptr 0 0 o e)
def V.eraseLL : List (List V) → List (List V) := V.travLL (fun sz => .sl 0 sz 0 []) (fun _ sz _ es => .sl 0 sz 0 es) (fun _ _ o e => .ptr 0 0 o e)

section
variable (f0 : Nat → V) (fs : Nat → Nat → Nat → List (List V) → V) (fp : Nat → Nat → Nat → List V → V)
theorem travL_eq (l : List V) : V.travL f0 fs fp l = l.map (V.trav f0 fs fp) := by
  induction l with
  | nil => rfl
  | cons x xs ih => simp [V.travL, ih]
theorem travLL_eq (l : List (List V)) : V.travLL f0 fs fp l = l.map (V.travL f0 fs fp) := by
  induction l with
  | nil => rfl
  | cons x xs ih => simp [V.travLL, ih]
theorem travL_get (l : List V) (i : Nat) : (V.travL f0 fs fp l)[i]? = (l[i]?).map (V.trav f0 fs fp) := by rw [travL_eq, List.getElem?_map]
theorem travLL_get (l : List (List V)) (i : Nat) : (V.travLL f0 fs fp l)[i]? = (l[i]?).map (V.travL f0 fs fp) := by rw [travLL_eq, List.getElem?_map]
theorem travL_len (l : List V) : (V.travL f0 fs fp l).length = l.length := by rw [travL_eq, List.length_map]
theorem travLL_len (l : List (List V)) : (V.travLL f0 fs fp l).length = l.length := by rw [travLL_eq, List.length_map]
end

mutual
/-- All labels, as they stand. -/
def V.labels : V → List Nat
  | .sl L _ _ es => L :: V.labelsLL es
  | .ptr L _ _ e => L :: V.labelsL e
  | .fn _ caps => V.labelsL caps
  | .agg cs => V.labelsL cs
  | .tup vs => V.labelsL vs
  | .any => []
  | .bool _ => []
  | .int _ _ => []
  | .str _ => []
  | .nil _ => []
  | .nilP => []
def V.labelsL : List V → List Nat
  | [] => []
  | x :: xs => V.labels x ++ V.labelsL xs
def V.labelsLL : List (List V) → List Nat
  | [] => []
  | e :: es => V.labelsL e ++ V.labelsLL es
end
theorem mem_labelsL {L : Nat} {l : List V} : L ∈ V.labelsL l ↔ ∃ x ∈ l, L ∈ V.labels x := by
  induction l with
  | nil => simp [V.labelsL]
  | cons x xs ih => simp [V.labelsL, ih]
theorem mem_labelsLL {L : Nat} {l : List (List V)} : L ∈ V.labelsLL l ↔ ∃ e ∈ l, L ∈ V.labelsL e := by
  induction l with
  | nil => simp [V.labelsLL]
  | cons x xs ih => simp [V.labelsLL, ih]

/-- Label to block, first cell, cells of an element. -/
abbrev Sig := Nat → Option (Nat × Nat × Nat)

/-- No cell of a row of n cells is one that must not be written. -/
def Nf (fr : Nat × Nat) (n : Nat) : Prop := fr.2 ≤ fr.1 ∨ n ≤ fr.1

/-- Below lim nothing is written; the blocks 'bad' are somebody's who may write them later. -/
structure Base where
  lim : Nat
  bad : Nat → Prop
  lt : ∀ k, bad k → k < lim
/-- A block without a name: nobody writes it. -/
def Old (base : Base) (σ : Sig) (w : World) (k : Nat) : Prop := k < w.heap.size ∧ (∀ L b o s, σ L = some (b, o, s) → b ≠ k) ∧ ¬ base.bad k
/-- Where an array's part lies: a block without a name (label 0), or a block of the call's own. -/
def At (base : Base) (σ : Sig) (w : World) (L sz pos room : Nat) (ad : Addr) : Prop :=
  (L = 0 ∧ Old base σ w ad.block) ∨ (∃ b o cur e fr, σ L = some (b, o, sz) ∧ ad = ⟨b, o + pos, none⟩ ∧ w.heap[b]? = some (.cells cur e fr) ∧ Nf fr cur.size ∧ o + pos + room ≤ cur.size)

/-- The machine's value v reads as V in the world w. -/
inductive M (base : Base) (σ : Sig) (w : World) : V → Value → Prop
  | any (v : Value) : M base σ w .any v
  | bool (b : Bool) : M base σ w (.bool b) (.bool b)
  | int (k : IntKind) (n : Int) : M base σ w (.int k n) (.int k n)
  | str (s : List UInt8) : M base σ w (.str s) (.string ⟨s.toArray⟩)
  | nil (sz : Nat) (A : Option Addr) : M base σ w (.nil sz) (.slice A 0 0)
  | sl (L sz off : Nat) (es : List (List V)) (A : Option Addr) (cap : Nat) (u : Nat → Nat → Value) (h1 : es.length ≤ cap) (h2 : cap ≤ maxLen) (h3 : ∀ e ∈ es, e.length = sz)
      (h4 : (L = 0 ∧ es = []) ∨ cap = 0 ∨ ∃ ad, A = some ad ∧ At base σ w L sz (off * sz) (cap * sz) ad)
      (h5 : ∀ ad, A = some ad → ∀ (j : Nat) e (c : Nat) x, es[j]? = some e → e[c]? = some x → w.cell? (ad.add (j * sz + c)) = some (u j c))
      (h6 : ∀ (j : Nat) e (c : Nat) x, es[j]? = some e → e[c]? = some x → M base σ w x (u j c)) : M base σ w (.sl L sz off es) (.slice A es.length cap)
  | nilP : M base σ w .nilP (.pointer none)
  | ptr (L i o : Nat) (e : List V) (ad : Addr) (u : Nat → Value) (h4 : At base σ w L e.length (i * e.length) e.length ad)
      (h5 : ∀ (c : Nat) x, e[c]? = some x → w.cell? (ad.add c) = some (u c)) (h6 : ∀ (c : Nat) x, e[c]? = some x → M base σ w x (u c)) : M base σ w (.ptr L i o e) (.pointer (some (ad.add o)))
  | fn (f : Nat) (caps : List V) (vs : List Value) (h1 : caps.length = vs.length) (h6 : ∀ (c : Nat) x u, caps[c]? = some x → vs[c]? = some u → M base σ w x u) : M base σ w (.fn f caps) (.func (.func f) #[] vs.toArray)
  | agg (cs : List V) (vs : List Value) (h1 : cs.length = vs.length) (h6 : ∀ (c : Nat) x u, cs[c]? = some x → vs[c]? = some u → M base σ w x u) : M base σ w (.agg cs) (.agg vs.toArray)
  | tup (cs : List V) (vs : List Value) (h1 : cs.length = vs.length) (h6 : ∀ (c : Nat) x u, cs[c]? = some x → vs[c]? = some u → M base σ w x u) : M base σ w (.tup cs) (.tuple vs.toArray)

/-- Place by place. -/
def Ms (base : Base) (σ : Sig) (w : World) (t : List V) (l : List Value) : Prop := t.length = l.length ∧ ∀ (i : Nat) x u, t[i]? = some x → l[i]? = some u → M base σ w x u

/-- Of an array L0 alone nothing need be as it was. -/
structure Keeps (but : Option Nat) (base : Base) (σ : Sig) (w : World) (σ' : Sig) (w' : World) : Prop where
  old : ∀ k, Old base σ w k → Old base σ' w' k ∧ w'.heap[k]? = w.heap[k]?
  own : ∀ L b o sz, some L ≠ but → σ L = some (b, o, sz) → σ' L = some (b, o, sz) ∧ w'.heap[b]? = w.heap[b]?

theorem cell_same {w w' : World} {a : Addr} (h : w'.heap[a.block]? = w.heap[a.block]?) : w'.cell? a = w.cell? a := World.cell?_of_block (w := w) h
theorem add_blk (a : Addr) (i : Nat) : (a.add i).block = a.block := by unfold Addr.add; split <;> rfl

theorem At.keep {but : Option Nat} {base : Base} {σ σ' : Sig} {w w' : World} {L sz pos room : Nat} {ad : Addr} (h : At base σ w L sz pos room ad) (k : Keeps but base σ w σ' w') (hL : some L ≠ but) :
    At base σ' w' L sz pos room ad ∧ w'.heap[ad.block]? = w.heap[ad.block]? := by
  rcases h with ⟨h0, hb⟩ | ⟨b, o, cur, e, fr, hs, rfl, hh, hf, hr⟩
  · exact ⟨.inl ⟨h0, (k.old _ hb).1⟩, (k.old _ hb).2⟩
  · obtain ⟨h1, h2⟩ := k.own L b o sz hL hs
    exact ⟨.inr ⟨b, o, cur, e, fr, h1, rfl, h2.trans hh, hf, hr⟩, h2⟩

/-- What keeps all but one array keeps every reading without it, and every reading behind its kill. -/
theorem M.kill {base : Base} {σ σ' : Sig} {w w' : World} {L0 : Nat} (k : Keeps (some L0) base σ w σ' w') {X : V} {v : Value} (h : M base σ w X v) : M base σ' w' (V.kill L0 X) v := by
  induction h with
  | any v => exact .any v
  | bool b => exact .bool b
  | int a b => exact .int a b
  | str s => exact .str s
  | nil sz A => exact .nil sz A
  | nilP => exact .nilP
  | sl L sz off es A cap u h1 h2 h3 h4 h5 h6 ih =>
    show M base σ' w' (killS L0 L sz off (V.travLL V.nil (killS L0) (killP L0) es)) _
    by_cases hne : L = L0
    · rw [show killS L0 L sz off (V.travLL V.nil (killS L0) (killP L0) es) = .any from if_pos hne]
      exact .any _
    · rw [show killS L0 L sz off (V.travLL V.nil (killS L0) (killP L0) es) = .sl L sz off (V.travLL V.nil (killS L0) (killP L0) es) from if_neg hne]
      have hne' : some L ≠ some L0 := fun e => hne (Option.some.inj e)
      have hlen := travLL_len V.nil (killS L0) (killP L0) es
      rw [← hlen]
      refine .sl L sz off _ A cap u (by rw [hlen]; exact h1) h2 ?_ ?_ ?_ ?_
      · intro e he
        rw [travLL_eq] at he
        obtain ⟨e', he', rfl⟩ := List.mem_map.1 he
        rw [travL_len]; exact h3 e' he'
      · rcases h4 with ⟨h0, rfl⟩ | h0 | ⟨ad, h0, hat⟩
        · exact .inl ⟨h0, rfl⟩
        · exact .inr (.inl h0)
        · exact .inr (.inr ⟨ad, h0, (hat.keep k hne').1⟩)
      · intro ad hA j e c x he hx
        rw [travLL_get] at he
        obtain ⟨e', he', rfl⟩ := Option.map_eq_some_iff.1 he
        rw [travL_get] at hx
        obtain ⟨x', hx', rfl⟩ := Option.map_eq_some_iff.1 hx
        have := h5 ad hA j e' c x' he' hx'
        rcases h4 with ⟨_, rfl⟩ | h0 | ⟨ad', h0, hat⟩
        · simp at he'
        · have : es.length = 0 := by omega
          rw [List.eq_nil_of_length_eq_zero this] at he'
          simp at he'
        · rw [h0] at hA
          obtain rfl := Option.some.inj hA
          exact (cell_same (w := w) (by rw [add_blk]; exact (hat.keep k hne').2)).trans this
      · intro j e c x he hx
        rw [travLL_get] at he
        obtain ⟨e', he', rfl⟩ := Option.map_eq_some_iff.1 he
        rw [travL_get] at hx
        obtain ⟨x', hx', rfl⟩ := Option.map_eq_some_iff.1 hx
        exact ih j e' c x' he' hx'
  | ptr L i o e ad u h4 h5 h6 ih =>
    show M base σ' w' (killP L0 L i o (V.travL V.nil (killS L0) (killP L0) e)) _
    by_cases hne : L = L0
    · rw [show killP L0 L i o (V.travL V.nil (killS L0) (killP L0) e) = .any from if_pos hne]
      exact .any _
    · rw [show killP L0 L i o (V.travL V.nil (killS L0) (killP L0) e) = .ptr L i o (V.travL V.nil (killS L0) (killP L0) e) from if_neg hne]
      have hne' : some L ≠ some L0 := fun e => hne (Option.some.inj e)
      refine .ptr L i o _ ad u (by rw [travL_len]; exact (h4.keep k hne').1) ?_ ?_
      · intro c x hx
        rw [travL_get] at hx
        obtain ⟨x', hx', rfl⟩ := Option.map_eq_some_iff.1 hx
        exact (cell_same (w := w) (by rw [add_blk]; exact (h4.keep k hne').2)).trans (h5 c x' hx')
      · intro c x hx
        rw [travL_get] at hx
        obtain ⟨x', hx', rfl⟩ := Option.map_eq_some_iff.1 hx
        exact ih c x' hx'
  | fn f caps vs h1 h6 ih =>
    refine .fn f _ vs (by rw [travL_len]; exact h1) ?_
    intro c x u hx hu
    rw [travL_get] at hx
    obtain ⟨x', hx', rfl⟩ := Option.map_eq_some_iff.1 hx
    exact ih c x' u hx' hu
  | agg caps vs h1 h6 ih =>
    refine .agg _ vs (by rw [travL_len]; exact h1) ?_
    intro c x u hx hu
    rw [travL_get] at hx
    obtain ⟨x', hx', rfl⟩ := Option.map_eq_some_iff.1 hx
    exact ih c x' u hx' hu
  | tup caps vs h1 h6 ih =>
    refine .tup _ vs (by rw [travL_len]; exact h1) ?_
    intro c x u hx hu
    rw [travL_get] at hx
    obtain ⟨x', hx', rfl⟩ := Option.map_eq_some_iff.1 hx
    exact ih c x' u hx' hu

/-- What keeps all keeps every reading; what keeps all but L0 keeps every reading that L0 is not in. -/
theorem M.keep {but : Option Nat} {base : Base} {σ σ' : Sig} {w w' : World} (k : Keeps but base σ w σ' w') {X : V} {v : Value} (h : M base σ w X v) (hV : ∀ L ∈ X.labels, some L ≠ but) : M base σ' w' X v := by
  induction h with
  | any v => exact .any v
  | bool b => exact .bool b
  | int a b => exact .int a b
  | str s => exact .str s
  | nil sz A => exact .nil sz A
  | nilP => exact .nilP
  | sl L sz off es A cap u h1 h2 h3 h4 h5 h6 ih =>
    have hne' : some L ≠ but := hV L (by simp [V.labels])
    refine .sl L sz off _ A cap u h1 h2 h3 ?_ ?_ ?_
    · rcases h4 with h0 | h0 | ⟨ad, h0, hat⟩
      · exact .inl h0
      · exact .inr (.inl h0)
      · exact .inr (.inr ⟨ad, h0, (hat.keep k hne').1⟩)
    · intro ad hA j e c x he hx
      have := h5 ad hA j e c x he hx
      rcases h4 with ⟨_, rfl⟩ | h0 | ⟨ad', h0, hat⟩
      · simp at he
      · have : es.length = 0 := by omega
        rw [List.eq_nil_of_length_eq_zero this] at he
        simp at he
      · rw [h0] at hA
        obtain rfl := Option.some.inj hA
        exact (cell_same (w := w) (by rw [add_blk]; exact (hat.keep k hne').2)).trans this
    · intro j e c x he hx
      refine ih j e c x he hx fun L' hL' => hV L' ?_
      simp only [V.labels, List.mem_cons]
      exact .inr (mem_labelsLL.2 ⟨e, List.mem_of_getElem? he, mem_labelsL.2 ⟨x, List.mem_of_getElem? hx, hL'⟩⟩)
  | ptr L i o e ad u h4 h5 h6 ih =>
    have hne' : some L ≠ but := hV L (by simp [V.labels])
    refine .ptr L i o _ ad u (h4.keep k hne').1 ?_ ?_
    · intro c x hx
      exact (cell_same (w := w) (by rw [add_blk]; exact (h4.keep k hne').2)).trans (h5 c x hx)
    · intro c x hx
      refine ih c x hx fun L' hL' => hV L' ?_
      simp only [V.labels, List.mem_cons]
      exact .inr (mem_labelsL.2 ⟨x, List.mem_of_getElem? hx, hL'⟩)
  | fn f caps vs h1 h6 ih =>
    refine .fn f _ vs h1 fun c x u hx hu => ih c x u hx hu fun L' hL' => hV L' ?_
    exact mem_labelsL.2 ⟨x, List.mem_of_getElem? hx, hL'⟩
  | agg caps vs h1 h6 ih =>
    refine .agg _ vs h1 fun c x u hx hu => ih c x u hx hu fun L' hL' => hV L' ?_
    exact mem_labelsL.2 ⟨x, List.mem_of_getElem? hx, hL'⟩
  | tup caps vs h1 h6 ih =>
    refine .tup _ vs h1 fun c x u hx hu => ih c x u hx hu fun L' hL' => hV L' ?_
    exact mem_labelsL.2 ⟨x, List.mem_of_getElem? hx, hL'⟩

theorem M.keep' {base : Base} {σ σ' : Sig} {w w' : World} (k : Keeps none base σ w σ' w') {X : V} {v : Value} (h : M base σ w X v) : M base σ' w' X v := h.keep k (fun _ _ => by simp)
theorem Ms.keep {base : Base} {σ σ' : Sig} {w w' : World} (k : Keeps none base σ w σ' w') {t : List V} {l : List Value} (h : Ms base σ w t l) : Ms base σ' w' t l := ⟨h.1, fun i x u hx hu => (h.2 i x u hx hu).keep' k⟩
theorem Ms.kill {base : Base} {σ σ' : Sig} {w w' : World} {L0 : Nat} (k : Keeps (some L0) base σ w σ' w') {t : List V} {l : List Value} (h : Ms base σ w t l) : Ms base σ' w' (V.killL L0 t) l := by
  refine ⟨by unfold V.killL; rw [travL_len]; exact h.1, fun i x u hx hu => ?_⟩
  unfold V.killL at hx
  rw [travL_get] at hx
  obtain ⟨x', hx', rfl⟩ := Option.map_eq_some_iff.1 hx
  exact (h.2 i x' u hx' hu).kill k
end Go.Proofs.Ytjhfabimacljhaa.K
