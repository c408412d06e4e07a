/- The abstract values of this claim's proof: values with their content inline, labels for blocks of the call's own, and what it means that a value of the machine reads as one. Nothing here depends on the program. -/
import Derived.Below
import Derived.WalkKit
import Derived.Deep.LoopGhost
import Derived.Deep.Draws
import Derived.Scope
import Derived.Tactics
import Derived.Laws.Cells
import Derived.Laws.Rows
import Derived.Laws.CopyRow
import Derived.WideLaws
import Derived.Deep.WholeRow
import Derived.Lib.Bytes
import Derived.Laws.Slices
import Derived.Lib.ConvBytes
import Derived.Laws.Tables
import Derived.Laws.BytesString
import Derived.Laws.AppendOwn
namespace Go.Proofs.YtliiphpbfambcaaGreatDoor.K
open Go Go.RowKit

inductive V where
  | any
  | bool (b : Bool)
  | int (k : IntKind) (n : Int)
  | str (s : List UInt8)
  | nil (sz : Nat)
  | sl (L sz off : Nat) (es : List (List V))
  | nilP
  | ptr (L i o : Nat) (e : List V)
  | fn (f : Nat) (caps : List V)
  | agg (cs : List V)
  | tup (vs : List V)
  deriving Inhabited

mutual
def V.trav (f0 : Nat → V) (fs : Nat → Nat → Nat → List (List V) → V) (fp : Nat → Nat → Nat → List V → V) : V → V
  | .sl L sz off es => fs L sz off (V.travLL f0 fs fp es)
  | .ptr L i o e => fp L i o (V.travL f0 fs fp e)
  | .fn f caps => .fn f (V.travL f0 fs fp caps)
  | .agg cs => .agg (V.travL f0 fs fp cs)
  | .tup vs => .tup (V.travL f0 fs fp vs)
  | .any => .any
  | .bool b => .bool b
  | .int k n => .int k n
  | .str s => .str s
  | .nil sz => f0 sz
  | .nilP => .nilP
def V.travL (f0 : Nat → V) (fs : Nat → Nat → Nat → List (List V) → V) (fp : Nat → Nat → Nat → List V → V) : List V → List V
  | [] => []
  | x :: xs => V.trav f0 fs fp x :: V.travL f0 fs fp xs
def V.travLL (f0 : Nat → V) (fs : Nat → Nat → Nat → List (List V) → V) (fp : Nat → Nat → Nat → List V → V) : List (List V) → List (List V)
  | [] => []
  | e :: es => V.travL f0 fs fp e :: V.travLL f0 fs fp es
end

def updS (L i : Nat) (e' : List V) (M sz off : Nat) (es : List (List V)) : V :=
  if M = L ∧ off ≤ i then .sl M sz off (es.set (i - off) e') else .sl M sz off es
def updP (L i : Nat) (e' : List V) (M j o : Nat) (e : List V) : V :=
  if M = L ∧ j = i then .ptr M j o e' else .ptr M j o e
def V.upd (L i : Nat) (e' : List V) : V → V := V.trav V.nil (updS L i e') (updP L i e')
def V.updL (L i : Nat) (e' : List V) : List V → List V := V.travL V.nil (updS L i e') (updP L i e')
def V.updLL (L i : Nat) (e' : List V) : List (List V) → List (List V) := V.travLL V.nil (updS L i e') (updP L i e')
def killS (L : Nat) (M sz off : Nat) (es : List (List V)) : V := if M = L then .any else .sl M sz off es
def killP (L : Nat) (M j o : Nat) (e : List V) : V := if M = L then .any else .ptr M j o e
def V.kill (L : Nat) : V → V := V.trav V.nil (killS L) (killP L)
def V.killL (L : Nat) : List V → List V := V.travL V.nil (killS L) (killP L)
def V.killLL (L : Nat) : List (List V) → List (List V) := V.travLL V.nil (killS L) (killP L)
def V.erase : V → V := V.trav (fun sz => .sl 0 sz 0 []) (fun _ sz _ es => .sl 0 sz 0 es) (fun _ _ o e => .ptr 0 0 o e)
def V.eraseL : List V → List V := V.travL (fun sz => .sl 0 sz 0 []) (fun _ sz _ es => .sl 0 sz 0 es) (fun _ _ o e => .ptr 0 0 o e)
def V.eraseLL : List (List V) → List (List V) := V.travLL (fun sz => .sl 0 sz 0 []) (fun _ sz _ es => .sl 0 sz 0 es) (fun _ _ o e => .ptr 0 0 o e)

section
variable (f0 : Nat → V) (fs : Nat → Nat → Nat → List (List V) → V) (fp : Nat → Nat → Nat → List V → V)
theorem travL_eq (l : List V) : V.travL f0 fs fp l = l.map (V.trav f0 fs fp) := by
  induction l with
  | nil => rfl
  | cons x xs ih => simp [V.travL, ih]
theorem travLL_eq (l : List (List V)) : V.travLL f0 fs fp l = l.map (V.travL f0 fs fp) := by
  induction l with
  | nil => rfl
  | cons x xs ih => simp [V.travLL, ih]
theorem travL_get (l : List V) (i : Nat) : (V.travL f0 fs fp l)[i]? = (l[i]?).map (V.trav f0 fs fp) := by rw [travL_eq, List.getElem?_map]
theorem travLL_get (l : List (List V)) (i : Nat) : (V.travLL f0 fs fp l)[i]? = (l[i]?).map (V.travL f0 fs fp) := by rw [travLL_eq, List.getElem?_map]
theorem travL_len (l : List V) : (V.travL f0 fs fp l).length = l.length := by rw [travL_eq, List.length_map]
theorem travLL_len (l : List (List V)) : (V.travLL f0 fs fp l).length = l.length := by rw [travLL_eq, List.length_map]
end

mutual
def V.labels : V → List Nat
  | .sl L _ _ es => L :: V.labelsLL es
  | .ptr L _ _ e => L :: V.labelsL e
  | .fn _ caps => V.labelsL caps
  | .agg cs => V.labelsL cs
  | .tup vs => V.labelsL vs
  | .any => []
  | .bool _ => []
  | .int _ _ => []
  | .str _ => []
  | .nil _ => []
  | .nilP => []
def V.labelsL : List V → List Nat
  | [] => []
  | x :: xs => V.labels x ++ V.labelsL xs
def V.labelsLL : List (List V) → List Nat
  | [] => []
  | e :: es => V.labelsL e ++ V.labelsLL es
end
theorem mem_labelsL {L : Nat} {l : List V} : L ∈ V.labelsL l ↔ ∃ x ∈ l, L ∈ V.labels x := by
  induction l with
  | nil => simp [V.labelsL]
  | cons x xs ih => simp [V.labelsL, ih]
theorem mem_labelsLL {L : Nat} {l : List (List V)} : L ∈ V.labelsLL l ↔ ∃ e ∈ l, L ∈ V.labelsL e := by
  induction l with
  | nil => simp [V.labelsLL]
  | cons x xs ih => simp [V.labelsLL, ih]

abbrev Sig := Nat → Option (Nat × Nat × Nat)

def Nf (fr : Nat × Nat) (n : Nat) : Prop := fr.2 ≤ fr.1 ∨ n ≤ fr.1

structure Base where
  lim : Nat
  bad : Nat → Prop
  lt : ∀ k, bad k → k < lim
def Old (base : Base) (σ : Sig) (w : World) (k : Nat) : Prop := k < w.heap.size ∧ (∀ L b o s, σ L = some (b, o, s) → b ≠ k) ∧ ¬ base.bad k
def At (base : Base) (σ : Sig) (w : World) (L sz pos room : Nat) (ad : Addr) : Prop :=
  (L = 0 ∧ Old base σ w ad.block) ∨ (∃ b o cur e fr, σ L = some (b, o, sz) ∧ ad = ⟨b, o + pos, none⟩ ∧ w.heap[b]? = some (.cells cur e fr) ∧ Nf fr cur.size ∧ o + pos + room ≤ cur.size)

inductive M (base : Base) (σ : Sig) (w : World) : V → Value → Prop
  | any (v : Value) : M base σ w .any v
  | bool (b : Bool) : M base σ w (.bool b) (.bool b)
  | int (k : IntKind) (n : Int) : M base σ w (.int k n) (.int k n)
  | str (s : List UInt8) : M base σ w (.str s) (.string ⟨s.toArray⟩)
  | nil (sz : Nat) (A : Option Addr) : M base σ w (.nil sz) (.slice A 0 0)
  | sl (L sz off : Nat) (es : List (List V)) (A : Option Addr) (cap : Nat) (u : Nat → Nat → Value) (h1 : es.length ≤ cap) (h2 : cap ≤ maxLen) (h3 : ∀ e ∈ es, e.length = sz)
      (h4 : (L = 0 ∧ es = []) ∨ cap = 0 ∨ ∃ ad, A = some ad ∧ At base σ w L sz (off * sz) (cap * sz) ad)
      (h5 : ∀ ad, A = some ad → ∀ (j : Nat) e (c : Nat) x, es[j]? = some e → e[c]? = some x → w.cell? (ad.add (j * sz + c)) = some (u j c))
      (h6 : ∀ (j : Nat) e (c : Nat) x, es[j]? = some e → e[c]? = some x → M base σ w x (u j c)) : M base σ w (.sl L sz off es) (.slice A es.length cap)
  | nilP : M base σ w .nilP (.pointer none)
  | ptr (L i o : Nat) (e : List V) (ad : Addr) (u : Nat → Value) (h4 : At base σ w L e.length (i * e.length) e.length ad)
      (h5 : ∀ (c : Nat) x, e[c]? = some x → w.cell? (ad.add c) = some (u c)) (h6 : ∀ (c : Nat) x, e[c]? = some x → M base σ w x (u c)) : M base σ w (.ptr L i o e) (.pointer (some (ad.add o)))
  | fn (f : Nat) (caps : List V) (vs : List Value) (h1 : caps.length = vs.length) (h6 : ∀ (c : Nat) x u, caps[c]? = some x → vs[c]? = some u → M base σ w x u) : M base σ w (.fn f caps) (.func (.func f) #[] vs.toArray)
  | agg (cs : List V) (vs : List Value) (h1 : cs.length = vs.length) (h6 : ∀ (c : Nat) x u, cs[c]? = some x → vs[c]? = some u → M base σ w x u) : M base σ w (.agg cs) (.agg vs.toArray)
  | tup (cs : List V) (vs : List Value) (h1 : cs.length = vs.length) (h6 : ∀ (c : Nat) x u, cs[c]? = some x → vs[c]? = some u → M base σ w x u) : M base σ w (.tup cs) (.tuple vs.toArray)

def Ms (base : Base) (σ : Sig) (w : World) (t : List V) (l : List Value) : Prop := t.length = l.length ∧ ∀ (i : Nat) x u, t[i]? = some x → l[i]? = some u → M base σ w x u

structure Keeps (but : Option Nat) (base : Base) (σ : Sig) (w : World) (σ' : Sig) (w' : World) : Prop where
  old : ∀ k, Old base σ w k → Old base σ' w' k ∧ w'.heap[k]? = w.heap[k]?
  own : ∀ L b o sz, some L ≠ but → σ L = some (b, o, sz) → σ' L = some (b, o, sz) ∧ w'.heap[b]? = w.heap[b]?

theorem cell_same {w w' : World} {a : Addr} (h : w'.heap[a.block]? = w.heap[a.block]?) : w'.cell? a = w.cell? a := World.cell?_of_block (w := w) h
theorem add_blk (a : Addr) (i : Nat) : (a.add i).block = a.block := by unfold Addr.add; split <;> rfl

theorem At.keep {but : Option Nat} {base : Base} {σ σ' : Sig} {w w' : World} {L sz pos room : Nat} {ad : Addr} (h : At base σ w L sz pos room ad) (k : Keeps but base σ w σ' w') (hL : some L ≠ but) :
    At base σ' w' L sz pos room ad ∧ w'.heap[ad.block]? = w.heap[ad.block]? := by
  rcases h with ⟨h0, hb⟩ | ⟨b, o, cur, e, fr, hs, rfl, hh, hf, hr⟩
  · exact ⟨.inl ⟨h0, (k.old _ hb).1⟩, (k.old _ hb).2⟩
  · obtain ⟨h1, h2⟩ := k.own L b o sz hL hs
    exact ⟨.inr ⟨b, o, cur, e, fr, h1, rfl, h2.trans hh, hf, hr⟩, h2⟩

theorem M.kill {base : Base} {σ σ' : Sig} {w w' : World} {L0 : Nat} (k : Keeps (some L0) base σ w σ' w') {X : V} {v : Value} (h : M base σ w X v) : M base σ' w' (V.kill L0 X) v := by
  induction h with
  | any v => exact .any v
  | bool b => exact .bool b
  | int a b => exact .int a b
  | str s => exact .str s
  | nil sz A => exact .nil sz A
  | nilP => exact .nilP
  | sl L sz off es A cap u h1 h2 h3 h4 h5 h6 ih =>
    show M base σ' w' (killS L0 L sz off (V.travLL V.nil (killS L0) (killP L0) es)) _
    by_cases hne : L = L0
    · rw [show killS L0 L sz off (V.travLL V.nil (killS L0) (killP L0) es) = .any from if_pos hne]
      exact .any _
    · rw [show killS L0 L sz off (V.travLL V.nil (killS L0) (killP L0) es) = .sl L sz off (V.travLL V.nil (killS L0) (killP L0) es) from if_neg hne]
      have hne' : some L ≠ some L0 := fun e => hne (Option.some.inj e)
      have hlen := travLL_len V.nil (killS L0) (killP L0) es
      rw [← hlen]
      refine .sl L sz off _ A cap u (by rw [hlen]; exact h1) h2 ?_ ?_ ?_ ?_
      · intro e he
        rw [travLL_eq] at he
        obtain ⟨e', he', rfl⟩ := List.mem_map.1 he
        rw [travL_len]; exact h3 e' he'
      · rcases h4 with ⟨h0, rfl⟩ | h0 | ⟨ad, h0, hat⟩
        · exact .inl ⟨h0, rfl⟩
        · exact .inr (.inl h0)
        · exact .inr (.inr ⟨ad, h0, (hat.keep k hne').1⟩)
      · intro ad hA j e c x he hx
        rw [travLL_get] at he
        obtain ⟨e', he', rfl⟩ := Option.map_eq_some_iff.1 he
        rw [travL_get] at hx
        obtain ⟨x', hx', rfl⟩ := Option.map_eq_some_iff.1 hx
        have := h5 ad hA j e' c x' he' hx'
        rcases h4 with ⟨_, rfl⟩ | h0 | ⟨ad', h0, hat⟩
        · simp at he'
        · have : es.length = 0 := by omega
          rw [List.eq_nil_of_length_eq_zero this] at he'
          simp at he'
        · rw [h0] at hA
          obtain rfl := Option.some.inj hA
          exact (cell_same (w := w) (by rw [add_blk]; exact (hat.keep k hne').2)).trans this
      · intro j e c x he hx
        rw [travLL_get] at he
        obtain ⟨e', he', rfl⟩ := Option.map_eq_some_iff.1 he
        rw [travL_get] at hx
        obtain ⟨x', hx', rfl⟩ := Option.map_eq_some_iff.1 hx
        exact ih j e' c x' he' hx'
  | ptr L i o e ad u h4 h5 h6 ih =>
    show M base σ' w' (killP L0 L i o (V.travL V.nil (killS L0) (killP L0) e)) _
    by_cases hne : L = L0
    · rw [show killP L0 L i o (V.travL V.nil (killS L0) (killP L0) e) = .any from if_pos hne]
      exact .any _
    · rw [show killP L0 L i o (V.travL V.nil (killS L0) (killP L0) e) = .ptr L i o (V.travL V.nil (killS L0) (killP L0) e) from if_neg hne]
      have hne' : some L ≠ some L0 := fun e => hne (Option.some.inj e)
      refine .ptr L i o _ ad u (by rw [travL_len]; exact (h4.keep k hne').1) ?_ ?_
      · intro c x hx
        rw [travL_get] at hx
        obtain ⟨x', hx', rfl⟩ := Option.map_eq_some_iff.1 hx
        exact (cell_same (w := w) (by rw [add_blk]; exact (h4.keep k hne').2)).trans (h5 c x' hx')
      · intro c x hx
        rw [travL_get] at hx
        obtain ⟨x', hx', rfl⟩ := Option.map_eq_some_iff.1 hx
        exact ih c x' hx'
  | fn f caps vs h1 h6 ih =>
    refine .fn f _ vs (by rw [travL_len]; exact h1) ?_
    intro c x u hx hu
    rw [travL_get] at hx
    obtain ⟨x', hx', rfl⟩ := Option.map_eq_some_iff.1 hx
    exact ih c x' u hx' hu
  | agg caps vs h1 h6 ih =>
    refine .agg _ vs (by rw [travL_len]; exact h1) ?_
    intro c x u hx hu
    rw [travL_get] at hx
    obtain ⟨x', hx', rfl⟩ := Option.map_eq_some_iff.1 hx
    exact ih c x' u hx' hu
  | tup caps vs h1 h6 ih =>
    refine .tup _ vs (by rw [travL_len]; exact h1) ?_
    intro c x u hx hu
    rw [travL_get] at hx
    obtain ⟨x', hx', rfl⟩ := Option.map_eq_some_iff.1 hx
    exact ih c x' u hx' hu

theorem M.keep {but : Option Nat} {base : Base} {σ σ' : Sig} {w w' : World} (k : Keeps but base σ w σ' w') {X : V} {v : Value} (h : M base σ w X v) (hV : ∀ L ∈ X.labels, some L ≠ but) : M base σ' w' X v := by
  induction h with
  | any v => exact .any v
  | bool b => exact .bool b
  | int a b => exact .int a b
  | str s => exact .str s
  | nil sz A => exact .nil sz A
  | nilP => exact .nilP
  | sl L sz off es A cap u h1 h2 h3 h4 h5 h6 ih =>
    have hne' : some L ≠ but := hV L (by simp [V.labels])
    refine .sl L sz off _ A cap u h1 h2 h3 ?_ ?_ ?_
    · rcases h4 with h0 | h0 | ⟨ad, h0, hat⟩
      · exact .inl h0
      · exact .inr (.inl h0)
      · exact .inr (.inr ⟨ad, h0, (hat.keep k hne').1⟩)
    · intro ad hA j e c x he hx
      have := h5 ad hA j e c x he hx
      rcases h4 with ⟨_, rfl⟩ | h0 | ⟨ad', h0, hat⟩
      · simp at he
      · have : es.length = 0 := by omega
        rw [List.eq_nil_of_length_eq_zero this] at he
        simp at he
      · rw [h0] at hA
        obtain rfl := Option.some.inj hA
        exact (cell_same (w := w) (by rw [add_blk]; exact (hat.keep k hne').2)).trans this
    · intro j e c x he hx
      refine ih j e c x he hx fun L' hL' => hV L' ?_
      simp only [V.labels, List.mem_cons]
      exact .inr (mem_labelsLL.2 ⟨e, List.mem_of_getElem? he, mem_labelsL.2 ⟨x, List.mem_of_getElem? hx, hL'⟩⟩)
  | ptr L i o e ad u h4 h5 h6 ih =>
    have hne' : some L ≠ but := hV L (by simp [V.labels])
    refine .ptr L i o _ ad u (h4.keep k hne').1 ?_ ?_
    · intro c x hx
      exact (cell_same (w := w) (by rw [add_blk]; exact (h4.keep k hne').2)).trans (h5 c x hx)
    · intro c x hx
      refine ih c x hx fun L' hL' => hV L' ?_
      simp only [V.labels, List.mem_cons]
      exact .inr (mem_labelsL.2 ⟨x, List.mem_of_getElem? hx, hL'⟩)
  | fn f caps vs h1 h6 ih =>
    refine .fn f _ vs h1 fun c x u hx hu => ih c x u hx hu fun L' hL' => hV L' ?_
    exact mem_labelsL.2 ⟨x, List.mem_of_getElem? hx, hL'⟩
  | agg caps vs h1 h6 ih =>
    refine .agg _ vs h1 fun c x u hx hu => ih c x u hx hu fun L' hL' => hV L' ?_
    exact mem_labelsL.2 ⟨x, List.mem_of_getElem? hx, hL'⟩
  | tup caps vs h1 h6 ih =>
    refine .tup _ vs h1 fun c x u hx hu => ih c x u hx hu fun L' hL' => hV L' ?_
    exact mem_labelsL.2 ⟨x, List.mem_of_getElem? hx, hL'⟩

theorem M.keep' {base : Base} {σ σ' : Sig} {w w' : World} (k : Keeps none base σ w σ' w') {X : V} {v : Value} (h : M base σ w X v) : M base σ' w' X v := h.keep k (fun _ _ => by simp)
theorem Ms.keep {base : Base} {σ σ' : Sig} {w w' : World} (k : Keeps none base σ w σ' w') {t : List V} {l : List Value} (h : Ms base σ w t l) : Ms base σ' w' t l := ⟨h.1, fun i x u hx hu => (h.2 i x u hx hu).keep' k⟩
theorem Ms.kill {base : Base} {σ σ' : Sig} {w w' : World} {L0 : Nat} (k : Keeps (some L0) base σ w σ' w') {t : List V} {l : List Value} (h : Ms base σ w t l) : Ms base σ' w' (V.killL L0 t) l := by
  refine ⟨by unfold V.killL; rw [travL_len]; exact h.1, fun i x u hx hu => ?_⟩
  unfold V.killL at hx
  rw [travL_get] at hx
  obtain ⟨x', hx', rfl⟩ := Option.map_eq_some_iff.1 hx
  exact (h.2 i x' u hx' hu).kill k
end Go.Proofs.YtliiphpbfambcaaGreatDoor.K

/- What is known of a library's variable: which block it is, and that it holds some number. Nothing here depends on the program. -/
namespace Go.Proofs.YtliiphpbfambcaaGreatDoor.K
open Go Go.RowKit
abbrev gcell : Option Nat := some 0
def cellG (g : Nat) (w : World) : Bool := match w.cell? ⟨g, 0, none⟩ with | some (.int .i64 _) => true | _ => false
structure Gw (w : World) : Prop where
  go : ∀ g, gcell = some g → cellG g w = true
structure Gk (base : Base) (w : World) : Prop where
  w : Gw w
  lt : ∀ g, gcell = some g → g < base.lim
theorem cellG_t {g : Nat} {w : World} (h : cellG g w = true) : ∃ m, w.cell? ⟨g, 0, none⟩ = some (.int .i64 m) := by
  unfold cellG at h
  split at h
  · exact ⟨_, by assumption⟩
  · cases h
theorem cellG_mk {g : Nat} {w : World} {m : Int} (h : w.cell? ⟨g, 0, none⟩ = some (.int .i64 m)) : cellG g w = true := by unfold cellG; rw [h]
theorem cellG_lt {g : Nat} {w : World} (h : cellG g w = true) : g < w.heap.size := by
  obtain ⟨m, hm⟩ := cellG_t h
  rcases Nat.lt_or_ge g w.heap.size with h1 | h1
  · exact h1
  · exfalso
    have : w.heap[g]? = none := Array.getElem?_eq_none h1
    simp [World.cell?, this] at hm
theorem cell_sameG {w w' : World} {b q : Nat} (h : w'.heap[b]? = w.heap[b]?) : w'.cell? ⟨b, q, none⟩ = w.cell? ⟨b, q, none⟩ := by simp [World.cell?, h]
theorem Gk.at {base : Base} {w0 w : World} (h : Gk base w0) (bel : Below base.lim w0 w) : Gw w := by
  refine ⟨fun g hg => ?_⟩
  obtain ⟨m, hm⟩ := cellG_t (h.w.go g hg)
  exact cellG_mk ((cell_sameG (bel.block g (h.lt g hg))).trans hm)
theorem Gw.k {base : Base} {w : World} (h : Gw w) (hb : w.heap.size ≤ base.lim) : Gk base w := ⟨h, fun g hg => Nat.lt_of_lt_of_le (cellG_lt (h.go g hg)) hb⟩
theorem Gw.up {base : Base} {w w' : World} (h : Gw w) (bel : Below w.heap.size w w') : Gw w' := by
  refine ⟨fun g hg => ?_⟩
  obtain ⟨m, hm⟩ := cellG_t (h.go g hg)
  exact cellG_mk ((cell_sameG (bel.block g (cellG_lt (h.go g hg)))).trans hm)
end Go.Proofs.YtliiphpbfambcaaGreatDoor.K

/- What a store, a call that only makes memory, and a new naming of blocks do to readings. Nothing here depends on the program. -/
namespace Go.Proofs.YtliiphpbfambcaaGreatDoor.K
open Go Go.RowKit

theorem add_none (b q n : Nat) : (⟨b, q, none⟩ : Addr).add n = ⟨b, q + n, none⟩ := by unfold Addr.add; split <;> simp_all
theorem cell_at {w : World} {b : Nat} {cur : Array Value} {e : TypeId} {fr : Nat × Nat} (h : w.heap[b]? = some (.cells cur e fr)) (q : Nat) : w.cell? ⟨b, q, none⟩ = cur[q]? := by
  simp [World.cell?, h]

structure Put (base : Base) (σ : Sig) (w w' : World) (L0 i : Nat) (e' : List V) : Prop where
  ex : ∃ b o sz cur cur' et fr, ∃ u' : Nat → Value, σ L0 = some (b, o, sz) ∧ w.heap[b]? = some (.cells cur et fr) ∧ w'.heap[b]? = some (.cells cur' et fr) ∧ cur'.size = cur.size ∧ base.lim ≤ b ∧
    (∀ q, q < o + i * sz ∨ o + i * sz + sz ≤ q → cur'[q]? = cur[q]?) ∧ (∀ k, k ≠ b → w'.heap[k]? = w.heap[k]?) ∧ (∀ L b2 o2 s2, L ≠ L0 → σ L = some (b2, o2, s2) → b2 ≠ b) ∧ e'.length = sz ∧
    (∀ (c : Nat) x, e'[c]? = some x → cur'[o + i * sz + c]? = some (u' c)) ∧ (∀ (c : Nat) x, e'[c]? = some x → M base σ w' x (u' c))

theorem Put.keeps {base : Base} {σ : Sig} {w w' : World} {L0 i : Nat} {e' : List V} (p : Put base σ w w' L0 i e') : Keeps (some L0) base σ w σ w' := by
  obtain ⟨b, o, sz, cur, cur', et, fr, u', hs, h1, h2, h3, hb, hq, hk, hinj, _⟩ := p.ex
  refine ⟨fun k hk' => ?_, fun L b2 o2 s2 hne h => ⟨h, hk b2 (hinj L b2 o2 s2 (fun e => hne (by rw [e])) h)⟩⟩
  have he := hk k (Ne.symm (hk'.2.1 L0 b o sz hs))
  refine ⟨⟨?_, hk'.2⟩, he⟩
  rw [Array.getElem?_eq_getElem hk'.1] at he
  exact (Array.getElem?_eq_some_iff.1 he).1

theorem idx_far {sz p q c : Nat} (h : p ≠ q) (hc : c < sz) : p * sz + c < q * sz ∨ q * sz + sz ≤ p * sz + c := by
  rcases Nat.lt_or_gt_of_ne h with h | h
  · left
    have : (p + 1) * sz ≤ q * sz := Nat.mul_le_mul_right _ h
    rw [Nat.add_mul] at this; omega
  · right
    have : (q + 1) * sz ≤ p * sz := Nat.mul_le_mul_right _ h
    rw [Nat.add_mul] at this; omega

theorem M.upd {base : Base} {σ : Sig} {w w' : World} {L0 i : Nat} {e' : List V} (h0 : σ 0 = none) (p : Put base σ w w' L0 i e') {X : V} {v : Value} (h : M base σ w X v) : M base σ w' (V.upd L0 i e' X) v := by
  have hkeep := p.keeps
  obtain ⟨b, o, sz0, cur, cur', et, fr, u', hs, hb1, hb2, hsz, hb, hq, hk, hinj, he', hc', hm'⟩ := p.ex
  have hL0 : L0 ≠ 0 := fun e => by rw [e, h0] at hs; cases hs
  induction h with
  | any v => exact .any v
  | bool b => exact .bool b
  | int a b => exact .int a b
  | str s => exact .str s
  | nil sz A => exact .nil sz A
  | nilP => exact .nilP
  | sl L sz off es A cap u h1 h2 h3 h4 h5 h6 ih =>
    have hlen := travLL_len V.nil (updS L0 i e') (updP L0 i e') es
    have hel : ∀ e ∈ V.travLL V.nil (updS L0 i e') (updP L0 i e') es, e.length = sz := by
      intro e he
      rw [travLL_eq] at he
      obtain ⟨e1, he1, rfl⟩ := List.mem_map.1 he
      rw [travL_len]; exact h3 e1 he1
    have hM : ∀ (j : Nat) e (c : Nat) x, (V.travLL V.nil (updS L0 i e') (updP L0 i e') es)[j]? = some e → e[c]? = some x → (∃ e1 x1, es[j]? = some e1 ∧ e1[c]? = some x1) ∧ M base σ w' x (u j c) := by
      intro j e c x he hx
      rw [travLL_get] at he
      obtain ⟨e1, he1, rfl⟩ := Option.map_eq_some_iff.1 he
      rw [travL_get] at hx
      obtain ⟨x1, hx1, rfl⟩ := Option.map_eq_some_iff.1 hx
      exact ⟨⟨e1, x1, he1, hx1⟩, ih j e1 c x1 he1 hx1⟩
    show M base σ w' (updS L0 i e' L sz off (V.travLL V.nil (updS L0 i e') (updP L0 i e') es)) _
    by_cases hL : L = L0
    · subst hL
      rcases h4 with ⟨h0', _⟩ | hcap | ⟨ad, hA, hat⟩
      · exact absurd h0' hL0
      · have hnil : es = [] := List.eq_nil_of_length_eq_zero (by omega)
        subst hnil
        have : updS L i e' L sz off (V.travLL V.nil (updS L i e') (updP L i e') []) = .sl L sz off [] := by
          unfold updS; split <;> simp [V.travLL]
        rw [this]
        exact .sl L sz off [] A cap u h1 h2 (by simp) (.inr (.inl hcap)) (by simp) (by simp)
      · rcases hat with ⟨h0', _⟩ | ⟨b1, o1, cur1, et1, fr1, hs1, rfl, hh1, hnf, hroom⟩
        · exact absurd h0' hL0
        · rw [hs] at hs1
          obtain ⟨rfl, rfl, rfl⟩ : b = b1 ∧ o = o1 ∧ sz0 = sz := by simpa using hs1
          rw [hb1] at hh1
          obtain ⟨rfl, rfl, rfl⟩ : cur = cur1 ∧ et = et1 ∧ fr = fr1 := by simpa using hh1
          have hcell : ∀ (j : Nat) e (c : Nat) x, es[j]? = some e → e[c]? = some x → off + j ≠ i → cur'[o + off * sz0 + (j * sz0 + c)]? = some (u j c) := by
            intro j e c x he hx hne
            have h := h5 _ hA j e c x he hx
            rw [add_none, cell_at hb1] at h
            have hc : c < sz0 := by
              have := h3 e (List.mem_of_getElem? he)
              have := (List.getElem?_eq_some_iff.1 hx).1
              omega
            have hfar := idx_far (p := off + j) (q := i) hne hc
            rw [Nat.add_mul] at hfar
            rw [hq _ (by omega)]
            exact h
          have hat' : At base σ w' L sz0 (off * sz0) (cap * sz0) ⟨b, o + off * sz0, none⟩ := .inr ⟨b, o, cur', et, fr, hs, rfl, hb2, by rw [hsz]; exact hnf, by rw [hsz]; exact hroom⟩
          by_cases hoff : off ≤ i
          · rw [show updS L i e' L sz0 off (V.travLL V.nil (updS L i e') (updP L i e') es) = .sl L sz0 off ((V.travLL V.nil (updS L i e') (updP L i e') es).set (i - off) e') from if_pos ⟨rfl, hoff⟩]
            have hl2 : ((V.travLL V.nil (updS L i e') (updP L i e') es).set (i - off) e').length = es.length := by rw [List.length_set, hlen]
            rw [← hl2]
            refine .sl L sz0 off _ A cap (fun j c => if j = i - off then u' c else u j c) (by rw [hl2]; exact h1) h2 ?_ (.inr (.inr ⟨_, hA, hat'⟩)) ?_ ?_
            · intro e he
              rcases List.mem_or_eq_of_mem_set he with he | rfl
              · exact hel e he
              · exact he'
            · intro ad hA2 j e c x he hx
              rw [hA] at hA2
              obtain rfl := Option.some.inj hA2
              rw [add_none, cell_at hb2]
              by_cases hj : j = i - off
              · rw [if_pos hj]
                subst hj
                rw [List.getElem?_set] at he
                rw [if_pos rfl] at he
                split at he
                · obtain rfl := Option.some.inj he
                  have hpos : o + off * sz0 + ((i - off) * sz0 + c) = o + i * sz0 + c := by
                    have : off * sz0 + (i - off) * sz0 = i * sz0 := by rw [← Nat.add_mul]; congr 1; omega
                    omega
                  rw [hpos]
                  exact hc' c x hx
                · cases he
              · rw [if_neg hj]
                rw [List.getElem?_set_ne (Ne.symm hj)] at he
                obtain ⟨⟨e1, x1, he1, hx1⟩, _⟩ := hM j e c x he hx
                exact hcell j e1 c x1 he1 hx1 (by omega)
            · intro j e c x he hx
              by_cases hj : j = i - off
              · simp only [if_pos hj]
                subst hj
                rw [List.getElem?_set, if_pos rfl] at he
                split at he
                · obtain rfl := Option.some.inj he
                  exact hm' c x hx
                · cases he
              · simp only [if_neg hj]
                rw [List.getElem?_set_ne (Ne.symm hj)] at he
                exact (hM j e c x he hx).2
          · rw [show updS L i e' L sz0 off (V.travLL V.nil (updS L i e') (updP L i e') es) = .sl L sz0 off (V.travLL V.nil (updS L i e') (updP L i e') es) from if_neg (fun h => hoff h.2)]
            rw [← hlen]
            refine .sl L sz0 off _ A cap u (by rw [hlen]; exact h1) h2 hel (.inr (.inr ⟨_, hA, hat'⟩)) ?_ fun j e c x he hx => (hM j e c x he hx).2
            intro ad hA2 j e c x he hx
            rw [hA] at hA2
            obtain rfl := Option.some.inj hA2
            rw [add_none, cell_at hb2]
            obtain ⟨⟨e1, x1, he1, hx1⟩, _⟩ := hM j e c x he hx
            exact hcell j e1 c x1 he1 hx1 (by omega)
    · rw [show updS L0 i e' L sz off (V.travLL V.nil (updS L0 i e') (updP L0 i e') es) = .sl L sz off (V.travLL V.nil (updS L0 i e') (updP L0 i e') es) from if_neg (fun h => hL h.1)]
      have hne' : some L ≠ some L0 := fun e => hL (Option.some.inj e)
      rw [← hlen]
      refine .sl L sz off _ A cap u (by rw [hlen]; exact h1) h2 hel ?_ ?_ fun j e c x he hx => (hM j e c x he hx).2
      · rcases h4 with ⟨h0, rfl⟩ | h0 | ⟨ad, h0, hat⟩
        · exact .inl ⟨h0, rfl⟩
        · exact .inr (.inl h0)
        · exact .inr (.inr ⟨ad, h0, (hat.keep hkeep hne').1⟩)
      · intro ad hA j e c x he hx
        obtain ⟨⟨e1, x1, he1, hx1⟩, _⟩ := hM j e c x he hx
        have := h5 ad hA j e1 c x1 he1 hx1
        rcases h4 with ⟨_, rfl⟩ | h0 | ⟨ad', h0, hat⟩
        · simp at he1
        · have : es.length = 0 := by omega
          rw [List.eq_nil_of_length_eq_zero this] at he1
          simp at he1
        · rw [h0] at hA
          obtain rfl := Option.some.inj hA
          exact (cell_same (w := w) (by rw [add_blk]; exact (hat.keep hkeep hne').2)).trans this
  | ptr L j o2 e ad u h4 h5 h6 ih =>
    have hM : ∀ (c : Nat) x, (V.travL V.nil (updS L0 i e') (updP L0 i e') e)[c]? = some x → (∃ x1, e[c]? = some x1) ∧ M base σ w' x (u c) := by
      intro c x hx
      rw [travL_get] at hx
      obtain ⟨x1, hx1, rfl⟩ := Option.map_eq_some_iff.1 hx
      exact ⟨⟨x1, hx1⟩, ih c x1 hx1⟩
    have hlen := travL_len V.nil (updS L0 i e') (updP L0 i e') e
    show M base σ w' (updP L0 i e' L j o2 (V.travL V.nil (updS L0 i e') (updP L0 i e') e)) _
    by_cases hL : L = L0
    · subst hL
      rcases h4 with ⟨h0', _⟩ | ⟨b1, o1, cur1, et1, fr1, hs1, rfl, hh1, hnf, hroom⟩
      · exact absurd h0' hL0
      · rw [hs] at hs1
        obtain ⟨rfl, rfl, hszz⟩ : b = b1 ∧ o = o1 ∧ sz0 = e.length := by simpa using hs1
        rw [hb1] at hh1
        obtain ⟨rfl, rfl, rfl⟩ : cur = cur1 ∧ et = et1 ∧ fr = fr1 := by simpa using hh1
        by_cases hj : j = i
        · rw [show updP L i e' L j o2 (V.travL V.nil (updS L i e') (updP L i e') e) = .ptr L j o2 e' from if_pos ⟨rfl, hj⟩]
          subst hj
          have hle : e.length = e'.length := by omega
          refine .ptr L j o2 e' _ u' ?_ ?_ hm'
          · rw [← hle]
            exact .inr ⟨b, o, cur', et, fr, by rw [← hszz]; exact hs, rfl, hb2, by rw [hsz]; exact hnf, by rw [hsz]; exact hroom⟩
          · intro c x hx
            rw [add_none, cell_at hb2]
            have := hc' c x hx
            rw [hszz] at this
            exact this
        · rw [show updP L i e' L j o2 (V.travL V.nil (updS L i e') (updP L i e') e) = .ptr L j o2 (V.travL V.nil (updS L i e') (updP L i e') e) from if_neg (fun h => hj h.2)]
          refine .ptr L j o2 _ _ u ?_ ?_ fun c x hx => (hM c x hx).2
          · rw [hlen]
            exact .inr ⟨b, o, cur', et, fr, by rw [← hszz]; exact hs, rfl, hb2, by rw [hsz]; exact hnf, by rw [hsz]; exact hroom⟩
          · intro c x hx
            obtain ⟨x1, hx1⟩ := (hM c x hx).1
            have h := h5 c x1 hx1
            rw [add_none, cell_at hb1] at h
            rw [add_none, cell_at hb2]
            have hc : c < e.length := (List.getElem?_eq_some_iff.1 hx1).1
            have hfar := idx_far (p := j) (q := i) hj hc
            rw [hq _ (by rw [hszz]; omega)]
            exact h
    · rw [show updP L0 i e' L j o2 (V.travL V.nil (updS L0 i e') (updP L0 i e') e) = .ptr L j o2 (V.travL V.nil (updS L0 i e') (updP L0 i e') e) from if_neg (fun h => hL h.1)]
      have hne' : some L ≠ some L0 := fun e => hL (Option.some.inj e)
      refine .ptr L j o2 _ ad u (by rw [hlen]; exact (h4.keep hkeep hne').1) ?_ fun c x hx => (hM c x hx).2
      intro c x hx
      obtain ⟨x1, hx1⟩ := (hM c x hx).1
      exact (cell_same (w := w) (by rw [add_blk]; exact (h4.keep hkeep hne').2)).trans (h5 c x1 hx1)
  | fn f caps vs h1 h6 ih =>
    refine .fn f _ vs (by rw [travL_len]; exact h1) ?_
    intro c x u hx hu
    rw [travL_get] at hx
    obtain ⟨x', hx', rfl⟩ := Option.map_eq_some_iff.1 hx
    exact ih c x' u hx' hu
  | agg caps vs h1 h6 ih =>
    refine .agg _ vs (by rw [travL_len]; exact h1) ?_
    intro c x u hx hu
    rw [travL_get] at hx
    obtain ⟨x', hx', rfl⟩ := Option.map_eq_some_iff.1 hx
    exact ih c x' u hx' hu
  | tup caps vs h1 h6 ih =>
    refine .tup _ vs (by rw [travL_len]; exact h1) ?_
    intro c x u hx hu
    rw [travL_get] at hx
    obtain ⟨x', hx', rfl⟩ := Option.map_eq_some_iff.1 hx
    exact ih c x' u hx' hu
theorem Ms.upd {base : Base} {σ : Sig} {w w' : World} {L0 i : Nat} {e' : List V} (h0 : σ 0 = none) (p : Put base σ w w' L0 i e') {t : List V} {l : List Value} (h : Ms base σ w t l) : Ms base σ w' (V.updL L0 i e' t) l := by
  refine ⟨by unfold V.updL; rw [travL_len]; exact h.1, fun i x u hx hu => ?_⟩
  unfold V.updL at hx
  rw [travL_get] at hx
  obtain ⟨x', hx', rfl⟩ := Option.map_eq_some_iff.1 hx
  exact (h.2 i x' u hx' hu).upd h0 p

def V.ren (g : Nat → Nat) : V → V := V.trav V.nil (fun L sz off es => .sl (g L) sz off es) (fun L i o e => .ptr (g L) i o e)
def V.renL (g : Nat → Nat) : List V → List V := V.travL V.nil (fun L sz off es => .sl (g L) sz off es) (fun L i o e => .ptr (g L) i o e)
def V.renLL (g : Nat → Nat) : List (List V) → List (List V) := V.travLL V.nil (fun L sz off es => .sl (g L) sz off es) (fun L i o e => .ptr (g L) i o e)
theorem labels_in {es : List (List V)} {j c : Nat} {e : List V} {x : V} {L : Nat} (he : es[j]? = some e) (hx : e[c]? = some x) (h : L ∈ V.labels x) : L ∈ V.labelsLL es :=
  mem_labelsLL.2 ⟨e, List.mem_of_getElem? he, mem_labelsL.2 ⟨x, List.mem_of_getElem? hx, h⟩⟩
theorem labels_in1 {e : List V} {c : Nat} {x : V} {L : Nat} (hx : e[c]? = some x) (h : L ∈ V.labels x) : L ∈ V.labelsL e := mem_labelsL.2 ⟨x, List.mem_of_getElem? hx, h⟩
theorem M.ren {b1 b2 : Base} {σ σ' : Sig} {w : World} (g : Nat → Nat) {X : V} {v : Value} (h : M b1 σ w X v) (H : ∀ L ∈ V.labels X, ∀ sz pos room ad, At b1 σ w L sz pos room ad → At b2 σ' w (g L) sz pos room ad) (H0 : g 0 = 0) : M b2 σ' w (V.ren g X) v := by
  induction h with
  | any v => exact .any v
  | bool b => exact .bool b
  | int a b => exact .int a b
  | str s => exact .str s
  | nil sz A => exact .nil sz A
  | nilP => exact .nilP
  | sl L sz off es A cap u h1 h2 h3 h4 h5 h6 ih =>
    have hlen := travLL_len V.nil (fun L sz off es => .sl (g L) sz off es) (fun L i o e => .ptr (g L) i o e) es
    show M b2 σ' w (.sl (g L) sz off (V.travLL _ _ _ es)) _
    rw [← hlen]
    refine .sl (g L) sz off _ A cap u (by rw [hlen]; exact h1) h2 ?_ ?_ ?_ ?_
    · intro e he
      rw [travLL_eq] at he
      obtain ⟨e1, he1, rfl⟩ := List.mem_map.1 he
      rw [travL_len]; exact h3 e1 he1
    · rcases h4 with ⟨rfl, rfl⟩ | h0 | ⟨ad, h0, hat'⟩
      · exact .inl ⟨H0, rfl⟩
      · exact .inr (.inl h0)
      · exact .inr (.inr ⟨ad, h0, H L (by simp [V.labels]) _ _ _ _ hat'⟩)
    · intro ad hA j e c x he hx
      rw [travLL_get] at he
      obtain ⟨e1, he1, rfl⟩ := Option.map_eq_some_iff.1 he
      rw [travL_get] at hx
      obtain ⟨x1, hx1, rfl⟩ := Option.map_eq_some_iff.1 hx
      exact h5 ad hA j e1 c x1 he1 hx1
    · intro j e c x he hx
      rw [travLL_get] at he
      obtain ⟨e1, he1, rfl⟩ := Option.map_eq_some_iff.1 he
      rw [travL_get] at hx
      obtain ⟨x1, hx1, rfl⟩ := Option.map_eq_some_iff.1 hx
      exact ih j e1 c x1 he1 hx1 fun L' hL' => H L' (by simp only [V.labels, List.mem_cons]; exact .inr (labels_in he1 hx1 hL'))
  | ptr L i o e ad u h4 h5 h6 ih =>
    have hlen := travL_len V.nil (fun L sz off es => .sl (g L) sz off es) (fun L i o e => .ptr (g L) i o e) e
    show M b2 σ' w (.ptr (g L) i o (V.travL _ _ _ e)) _
    refine .ptr (g L) i o _ ad u (by rw [hlen]; exact H L (by simp [V.labels]) _ _ _ _ h4) ?_ ?_
    · intro c x hx
      rw [travL_get] at hx
      obtain ⟨x1, hx1, rfl⟩ := Option.map_eq_some_iff.1 hx
      exact h5 c x1 hx1
    · intro c x hx
      rw [travL_get] at hx
      obtain ⟨x1, hx1, rfl⟩ := Option.map_eq_some_iff.1 hx
      exact ih c x1 hx1 fun L' hL' => H L' (by simp only [V.labels, List.mem_cons]; exact .inr (labels_in1 hx1 hL'))
  | fn f caps vs h1 h6 ih =>
    refine .fn f _ vs (by rw [travL_len]; exact h1) ?_
    intro c x u hx hu
    rw [travL_get] at hx
    obtain ⟨x', hx', rfl⟩ := Option.map_eq_some_iff.1 hx
    exact ih c x' u hx' hu fun L' hL' => H L' (labels_in1 hx' hL')
  | agg caps vs h1 h6 ih =>
    refine .agg _ vs (by rw [travL_len]; exact h1) ?_
    intro c x u hx hu
    rw [travL_get] at hx
    obtain ⟨x', hx', rfl⟩ := Option.map_eq_some_iff.1 hx
    exact ih c x' u hx' hu fun L' hL' => H L' (labels_in1 hx' hL')
  | tup caps vs h1 h6 ih =>
    refine .tup _ vs (by rw [travL_len]; exact h1) ?_
    intro c x u hx hu
    rw [travL_get] at hx
    obtain ⟨x', hx', rfl⟩ := Option.map_eq_some_iff.1 hx
    exact ih c x' u hx' hu fun L' hL' => H L' (labels_in1 hx' hL')
mutual
theorem ren_id : ∀ X : V, V.ren (fun L => L) X = X
  | .sl L sz off es => by show V.sl L sz off (V.renLL _ es) = _; rw [renLL_id es]
  | .ptr L i o e => by show V.ptr L i o (V.renL _ e) = _; rw [renL_id e]
  | .fn f caps => by show V.fn f (V.renL _ caps) = _; rw [renL_id caps]
  | .agg cs => by show V.agg (V.renL _ cs) = _; rw [renL_id cs]
  | .tup cs => by show V.tup (V.renL _ cs) = _; rw [renL_id cs]
  | .any => rfl
  | .bool _ => rfl
  | .int _ _ => rfl
  | .str _ => rfl
  | .nil _ => rfl
  | .nilP => rfl
theorem renL_id : ∀ l : List V, V.renL (fun L => L) l = l
  | [] => rfl
  | x :: xs => by show V.ren _ x :: V.renL _ xs = _; rw [ren_id x, renL_id xs]
theorem renLL_id : ∀ l : List (List V), V.renLL (fun L => L) l = l
  | [] => rfl
  | e :: es => by show V.renL _ e :: V.renLL _ es = _; rw [renL_id e, renLL_id es]
end
theorem M.as {b1 b2 : Base} {σ σ' : Sig} {w : World} {X : V} {v : Value} (h : M b1 σ w X v) (H : ∀ L ∈ V.labels X, ∀ sz pos room ad, At b1 σ w L sz pos room ad → At b2 σ' w L sz pos room ad) : M b2 σ' w X v := by
  have := h.ren (b2 := b2) (σ' := σ') (fun L => L) H rfl
  rw [ren_id] at this
  exact this
theorem M.erase {base base' : Base} {σ σ' : Sig} {w : World} {X : V} {v : Value} (h : M base σ w X v) (H : ∀ L ∈ V.labels X, ∀ sz pos room ad, At base σ w L sz pos room ad → Old base' σ' w ad.block) : M base' σ' w (V.erase X) v := by
  induction h with
  | any v => exact .any v
  | bool b => exact .bool b
  | int a b => exact .int a b
  | str s => exact .str s
  | nil sz A => exact .sl 0 sz 0 [] A 0 (fun _ _ => undef) (Nat.le_refl _) (Nat.zero_le _) (by simp) (.inl ⟨rfl, rfl⟩) (by simp) (by simp)
  | nilP => exact .nilP
  | sl L sz off es A cap u h1 h2 h3 h4 h5 h6 ih =>
    have hlen := travLL_len (fun sz => .sl 0 sz 0 []) (fun _ sz _ es => .sl 0 sz 0 es) (fun _ _ o e => .ptr 0 0 o e) es
    show M base' σ' w (.sl 0 sz 0 (V.travLL _ _ _ es)) _
    rw [← hlen]
    refine .sl 0 sz 0 _ A cap u (by rw [hlen]; exact h1) h2 ?_ ?_ ?_ ?_
    · intro e he
      rw [travLL_eq] at he
      obtain ⟨e1, he1, rfl⟩ := List.mem_map.1 he
      rw [travL_len]; exact h3 e1 he1
    · rcases h4 with ⟨_, rfl⟩ | h0 | ⟨ad, h0, hat'⟩
      · exact .inl ⟨rfl, rfl⟩
      · exact .inr (.inl h0)
      · exact .inr (.inr ⟨ad, h0, .inl ⟨rfl, H L (by simp [V.labels]) _ _ _ _ hat'⟩⟩)
    · intro ad hA j e c x he hx
      rw [travLL_get] at he
      obtain ⟨e1, he1, rfl⟩ := Option.map_eq_some_iff.1 he
      rw [travL_get] at hx
      obtain ⟨x1, hx1, rfl⟩ := Option.map_eq_some_iff.1 hx
      exact h5 ad hA j e1 c x1 he1 hx1
    · intro j e c x he hx
      rw [travLL_get] at he
      obtain ⟨e1, he1, rfl⟩ := Option.map_eq_some_iff.1 he
      rw [travL_get] at hx
      obtain ⟨x1, hx1, rfl⟩ := Option.map_eq_some_iff.1 hx
      exact ih j e1 c x1 he1 hx1 fun L' hL' => H L' (by simp only [V.labels, List.mem_cons]; exact .inr (labels_in he1 hx1 hL'))
  | ptr L i o e ad u h4 h5 h6 ih =>
    have hlen := travL_len (fun sz => .sl 0 sz 0 []) (fun _ sz _ es => .sl 0 sz 0 es) (fun _ _ o e => .ptr 0 0 o e) e
    show M base' σ' w (.ptr 0 0 o (V.travL _ _ _ e)) _
    refine .ptr 0 0 o _ ad u (.inl ⟨rfl, H L (by simp [V.labels]) _ _ _ _ h4⟩) ?_ ?_
    · intro c x hx
      rw [travL_get] at hx
      obtain ⟨x1, hx1, rfl⟩ := Option.map_eq_some_iff.1 hx
      exact h5 c x1 hx1
    · intro c x hx
      rw [travL_get] at hx
      obtain ⟨x1, hx1, rfl⟩ := Option.map_eq_some_iff.1 hx
      exact ih c x1 hx1 fun L' hL' => H L' (by simp only [V.labels, List.mem_cons]; exact .inr (labels_in1 hx1 hL'))
  | fn f caps vs h1 h6 ih =>
    refine .fn f _ vs (by rw [travL_len]; exact h1) ?_
    intro c x u hx hu
    rw [travL_get] at hx
    obtain ⟨x', hx', rfl⟩ := Option.map_eq_some_iff.1 hx
    exact ih c x' u hx' hu fun L' hL' => H L' (labels_in1 hx' hL')
  | agg caps vs h1 h6 ih =>
    refine .agg _ vs (by rw [travL_len]; exact h1) ?_
    intro c x u hx hu
    rw [travL_get] at hx
    obtain ⟨x', hx', rfl⟩ := Option.map_eq_some_iff.1 hx
    exact ih c x' u hx' hu fun L' hL' => H L' (labels_in1 hx' hL')
  | tup caps vs h1 h6 ih =>
    refine .tup _ vs (by rw [travL_len]; exact h1) ?_
    intro c x u hx hu
    rw [travL_get] at hx
    obtain ⟨x', hx', rfl⟩ := Option.map_eq_some_iff.1 hx
    exact ih c x' u hx' hu fun L' hL' => H L' (labels_in1 hx' hL')
theorem At.block_lt {base : Base} {σ : Sig} {w : World} {L sz pos room : Nat} {ad : Addr} (h : At base σ w L sz pos room ad) : ad.block < w.heap.size := by
  rcases h with ⟨_, h⟩ | ⟨b, o, cur, e, _, _, rfl, hh, _, _⟩
  · exact h.1
  · exact (Array.getElem?_eq_some_iff.1 hh).1
theorem Ms.erase {base base' : Base} (hb : ∀ k, ¬ base'.bad k) {σ : Sig} {w : World} {t : List V} {l : List Value} (h : Ms base σ w t l) : Ms base' (fun _ => none) w (V.eraseL t) l := by
  refine ⟨by unfold V.eraseL; rw [travL_len]; exact h.1, fun i x u hx hu => ?_⟩
  unfold V.eraseL at hx
  rw [travL_get] at hx
  obtain ⟨x', hx', rfl⟩ := Option.map_eq_some_iff.1 hx
  exact (h.2 i x' u hx' hu).erase fun L _ _ _ _ _ hat => ⟨hat.block_lt, fun _ _ _ _ h => (by cases h), hb _⟩
end Go.Proofs.YtliiphpbfambcaaGreatDoor.K

/- A value of new memory, read again under other labels: what a call hands back is new memory, named anew by whoever called. Nothing here depends on the program. -/
namespace Go.Proofs.YtliiphpbfambcaaGreatDoor.K
open Go Go.RowKit

mutual
def V.cnt : V → Nat
  | .sl _ _ _ es => 1 + V.cntLL es
  | .ptr _ _ _ e => 1 + V.cntL e
  | .fn _ caps => V.cntL caps
  | .agg cs => V.cntL cs
  | .tup vs => V.cntL vs
  | .any => 0
  | .bool _ => 0
  | .int _ _ => 0
  | .str _ => 0
  | .nil _ => 0
  | .nilP => 0
def V.cntL : List V → Nat
  | [] => 0
  | x :: xs => V.cnt x + V.cntL xs
def V.cntLL : List (List V) → Nat
  | [] => 0
  | e :: es => V.cntL e + V.cntLL es
end
mutual
def V.tag (n : Nat) : V → V
  | .sl _ sz _ es => .sl n sz 0 (V.tagLL (n + 1) es)
  | .ptr _ i o e => .ptr n i o (V.tagL (n + 1) e)
  | .fn f caps => .fn f (V.tagL n caps)
  | .agg cs => .agg (V.tagL n cs)
  | .tup vs => .tup (V.tagL n vs)
  | .any => .any
  | .bool b => .bool b
  | .int k m => .int k m
  | .str s => .str s
  | .nil sz => .nil sz
  | .nilP => .nilP
def V.tagL (n : Nat) : List V → List V
  | [] => []
  | x :: xs => V.tag n x :: V.tagL (n + V.cnt x) xs
def V.tagLL (n : Nat) : List (List V) → List (List V)
  | [] => []
  | e :: es => V.tagL n e :: V.tagLL (n + V.cntL e) es
end
mutual
def V.dat : V → Bool
  | .sl _ _ off es => off == 0 && V.datLL es
  | .ptr .. => false
  | .fn .. => false
  | .agg cs => V.datL cs
  | .tup vs => V.datL vs
  | .any => false
  | .bool _ => true
  | .int _ _ => true
  | .str _ => true
  | .nil _ => false
  | .nilP => false
def V.datL : List V → Bool
  | [] => true
  | x :: xs => V.dat x && V.datL xs
def V.datLL : List (List V) → Bool
  | [] => true
  | e :: es => V.datL e && V.datLL es
end

mutual
theorem tag_labels : ∀ (X : V) (n : Nat), (V.tag n X).labels = List.range' n (V.cnt X)
  | .sl _ sz _ es, n => by simp only [V.tag, V.labels, V.cnt, tagLL_labels es (n + 1)]; rw [Nat.add_comm 1]; rfl
  | .ptr _ i o e, n => by simp only [V.tag, V.labels, V.cnt, tagL_labels e (n + 1)]; rw [Nat.add_comm 1]; rfl
  | .fn f caps, n => by simp only [V.tag, V.labels, V.cnt, tagL_labels caps n]
  | .agg cs, n => by simp only [V.tag, V.labels, V.cnt, tagL_labels cs n]
  | .tup vs, n => by simp only [V.tag, V.labels, V.cnt, tagL_labels vs n]
  | .any, n => rfl
  | .bool _, n => rfl
  | .int _ _, n => rfl
  | .str _, n => rfl
  | .nil _, n => rfl
  | .nilP, n => rfl
theorem tagL_labels : ∀ (l : List V) (n : Nat), V.labelsL (V.tagL n l) = List.range' n (V.cntL l)
  | [], n => rfl
  | x :: xs, n => by simp only [V.tagL, V.labelsL, V.cntL, tag_labels x n, tagL_labels xs (n + V.cnt x)]; rw [List.range'_append_1]
theorem tagLL_labels : ∀ (l : List (List V)) (n : Nat), V.labelsLL (V.tagLL n l) = List.range' n (V.cntLL l)
  | [], n => rfl
  | e :: es, n => by simp only [V.tagLL, V.labelsLL, V.cntLL, tagL_labels e n, tagLL_labels es (n + V.cntL e)]; rw [List.range'_append_1]
end
mutual
theorem tag_erase : ∀ (X : V) (n : Nat), V.dat X = true → V.erase (V.tag n X) = V.erase X
  | .sl _ sz _ es, n, h => by
    simp only [V.dat, Bool.and_eq_true] at h
    show V.sl 0 sz 0 (V.eraseLL (V.tagLL (n + 1) es)) = .sl 0 sz 0 (V.eraseLL es)
    rw [tagLL_erase es _ h.2]
  | .ptr .., n, h => by simp [V.dat] at h
  | .fn .., n, h => by simp [V.dat] at h
  | .agg cs, n, h => by
    simp only [V.dat] at h
    show V.agg (V.eraseL (V.tagL n cs)) = .agg (V.eraseL cs)
    rw [tagL_erase cs _ h]
  | .tup cs, n, h => by
    simp only [V.dat] at h
    show V.tup (V.eraseL (V.tagL n cs)) = .tup (V.eraseL cs)
    rw [tagL_erase cs _ h]
  | .any, n, h => rfl
  | .bool _, n, h => rfl
  | .int _ _, n, h => rfl
  | .str _, n, h => rfl
  | .nil _, n, h => by simp [V.dat] at h
  | .nilP, n, h => rfl
theorem tagL_erase : ∀ (l : List V) (n : Nat), V.datL l = true → V.eraseL (V.tagL n l) = V.eraseL l
  | [], n, h => rfl
  | x :: xs, n, h => by
    simp only [V.datL, Bool.and_eq_true] at h
    show V.erase (V.tag n x) :: V.eraseL (V.tagL (n + V.cnt x) xs) = V.erase x :: V.eraseL xs
    rw [tag_erase x n h.1, tagL_erase xs _ h.2]
theorem tagLL_erase : ∀ (l : List (List V)) (n : Nat), V.datLL l = true → V.eraseLL (V.tagLL n l) = V.eraseLL l
  | [], n, h => rfl
  | x :: xs, n, h => by
    simp only [V.datLL, Bool.and_eq_true] at h
    show V.eraseL (V.tagL n x) :: V.eraseLL (V.tagLL (n + V.cntL x) xs) = V.eraseL x :: V.eraseLL xs
    rw [tagL_erase x n h.1, tagLL_erase xs _ h.2]
end
mutual
theorem tag_dat : ∀ (X : V) (n : Nat), V.dat X = true → V.dat (V.tag n X) = true
  | .sl _ sz off es, n, h => by
    simp only [V.dat, Bool.and_eq_true] at h
    simp only [V.tag, V.dat, Bool.and_eq_true]
    exact ⟨rfl, tagLL_dat es _ h.2⟩
  | .ptr .., n, h => by simp [V.dat] at h
  | .fn .., n, h => by simp [V.dat] at h
  | .agg cs, n, h => tagL_dat cs n h
  | .tup cs, n, h => tagL_dat cs n h
  | .any, n, h => by simp [V.dat] at h
  | .bool _, n, h => rfl
  | .int _ _, n, h => rfl
  | .str _, n, h => rfl
  | .nil _, n, h => by simp [V.dat] at h
  | .nilP, n, h => by simp [V.dat] at h
theorem tagL_dat : ∀ (l : List V) (n : Nat), V.datL l = true → V.datL (V.tagL n l) = true
  | [], n, h => rfl
  | x :: xs, n, h => by
    simp only [V.datL, Bool.and_eq_true] at h
    simp only [V.tagL, V.datL, Bool.and_eq_true]
    exact ⟨tag_dat x n h.1, tagL_dat xs _ h.2⟩
theorem tagLL_dat : ∀ (l : List (List V)) (n : Nat), V.datLL l = true → V.datLL (V.tagLL n l) = true
  | [], n, h => rfl
  | x :: xs, n, h => by
    simp only [V.datLL, Bool.and_eq_true] at h
    simp only [V.tagLL, V.datLL, Bool.and_eq_true]
    exact ⟨tagL_dat x n h.1, tagLL_dat xs _ h.2⟩
end

def Inj (σ : Sig) : Prop := ∀ L L' b o s o' s', σ L = some (b, o, s) → σ L' = some (b, o', s') → L = L'
def blocks (σ : Sig) (ls : List Nat) (b : Nat) : Prop := ∃ L ∈ ls, ∃ o s, σ L = some (b, o, s)
structure Sub (σ : Sig) (ls : List Nat) (σ' : Sig) (ls' : List Nat) : Prop where
  dom : ∀ L b o s, σ' L = some (b, o, s) → L ∈ ls' ∧ blocks σ ls b
  inj : Inj σ'
def both (σ σ' : Sig) : Sig := fun L => (σ L).or (σ' L)
theorem both_left {σ σ' : Sig} {L b o s : Nat} (h : σ L = some (b, o, s)) : both σ σ' L = some (b, o, s) := by simp [both, h]
theorem both_right {σ σ' : Sig} {L b o s : Nat} (hn : σ L = none) (h : σ' L = some (b, o, s)) : both σ σ' L = some (b, o, s) := by simp [both, hn, h]
theorem both_cases {σ σ' : Sig} {L : Nat} {x : Nat × Nat × Nat} (h : both σ σ' L = some x) : σ L = some x ∨ σ' L = some x := by
  unfold both at h
  cases hl : σ L with
  | none => rw [hl] at h; exact .inr h
  | some y => rw [hl] at h; exact .inl h

theorem Sub.both {σ σ1 σ2 : Sig} {l1 l2 m1 m2 : List Nat} (hσ : Inj σ) (h1 : Sub σ l1 σ1 m1) (h2 : Sub σ l2 σ2 m2) (hl : ∀ L ∈ l1, L ∉ l2) (_hm : ∀ L ∈ m1, L ∉ m2) : Sub σ (l1 ++ l2) (both σ1 σ2) (m1 ++ m2) := by
  have hfar : ∀ L L' b o s o' s', σ1 L = some (b, o, s) → σ2 L' = some (b, o', s') → False := by
    intro L L' b o s o' s' ha hb
    obtain ⟨_, L1, hL1, o1, s1, e1⟩ := h1.dom L b o s ha
    obtain ⟨_, L2, hL2, o2, s2, e2⟩ := h2.dom L' b o' s' hb
    have := hσ L1 L2 b _ _ _ _ e1 e2
    subst this
    exact hl _ hL1 hL2
  refine ⟨?_, ?_⟩
  · intro L b o s h
    rcases both_cases h with h | h
    · obtain ⟨ha, L1, hL1, r⟩ := h1.dom L b o s h
      exact ⟨List.mem_append_left _ ha, L1, List.mem_append_left _ hL1, r⟩
    · obtain ⟨ha, L1, hL1, r⟩ := h2.dom L b o s h
      exact ⟨List.mem_append_right _ ha, L1, List.mem_append_right _ hL1, r⟩
  · intro L L' b o s o' s' ha hb
    rcases both_cases ha with ha | ha <;> rcases both_cases hb with hb | hb
    · exact h1.inj L L' b _ _ _ _ ha hb
    · exact (hfar L L' b _ _ _ _ ha hb).elim
    · exact (hfar L' L b _ _ _ _ hb ha).elim
    · exact h2.inj L L' b _ _ _ _ ha hb

theorem M.more {b1 b2 : Base} {σ σ' : Sig} {w : World} (h : ∀ L b o s, σ L = some (b, o, s) → σ' L = some (b, o, s)) {X : V} {v : Value} (hz : 0 ∉ V.labels X) (hm : M b1 σ w X v) : M b2 σ' w X v := by
  refine hm.as fun L hL sz pos room ad hat => ?_
  rcases hat with ⟨h0, _⟩ | ⟨b, o, cur, e, fr, hs, rest⟩
  · exact absurd (h0 ▸ hL) hz
  · exact .inr ⟨b, o, cur, e, fr, h L b o sz hs, rest⟩

def Same (base : Base) (σ : Sig) (w : World) (r X : V) (v : Value) : Prop := ∃ σ', Sub σ (V.labels r) σ' (V.labels X) ∧ M base σ' w X v

def noSig : Sig := fun _ => none
theorem sub_none (σ : Sig) (l m : List Nat) : Sub σ l noSig m := ⟨fun _ _ _ _ h => by simp [noSig] at h, fun _ _ _ _ _ _ _ h => by simp [noSig] at h⟩
section
variable {base : Base} {σ : Sig} {w : World}
mutual
theorem relabel (hσ : Inj σ) : ∀ (X r : V) (v : Value), M base σ w r v → V.erase r = V.erase X → V.dat X = true → 0 ∉ V.labels r → 0 ∉ V.labels X → (V.labels r).Nodup → (V.labels X).Nodup →
    ∃ σ', Sub σ (V.labels r) σ' (V.labels X) ∧ M base σ' w X v
  | .sl L' sz' off' es', r, v, hm, he, hd, hz, hz', hn, hn' => by
    simp only [V.dat, Bool.and_eq_true, beq_iff_eq] at hd
    obtain ⟨rfl, hd⟩ := hd
    have he' : V.erase r = .sl 0 sz' 0 (V.eraseLL es') := he
    cases hm with
    | nil sz A =>
      have h1 : V.sl 0 sz 0 [] = .sl 0 sz' 0 (V.eraseLL es') := he'
      simp only [V.sl.injEq, true_and] at h1
      have : es' = [] := by
        have := congrArg List.length h1.2
        unfold V.eraseLL at this
        rw [travLL_len] at this
        exact List.eq_nil_of_length_eq_zero this.symm
      subst this
      exact ⟨noSig, sub_none _ _ _, .sl L' sz' 0 [] A 0 (fun _ _ => undef) (Nat.le_refl _) (Nat.zero_le _) (by simp) (.inr (.inl rfl)) (by simp) (by simp)⟩
    | sl L sz off es A cap u h1 h2 h3 h4 h5 h6 =>
      have h1' : V.sl 0 sz 0 (V.eraseLL es) = .sl 0 sz' 0 (V.eraseLL es') := he'
      simp only [V.sl.injEq, true_and] at h1'
      obtain ⟨rfl, hes⟩ := h1'
      have hlen : es.length = es'.length := by
        have := congrArg List.length hes
        unfold V.eraseLL at this
        rw [travLL_len, travLL_len] at this
        exact this
      simp only [V.labels, List.mem_cons, not_or] at hz hz'
      simp only [V.labels, List.nodup_cons] at hn hn'
      rcases h4 with ⟨h0, _⟩ | hcap | ⟨ad, hA, hat⟩
      · exact absurd h0.symm hz.1
      · have hnil : es = [] := List.eq_nil_of_length_eq_zero (by omega)
        subst hnil
        have hnil' : es' = [] := List.eq_nil_of_length_eq_zero (by simpa using hlen.symm)
        subst hnil'
        exact ⟨noSig, sub_none _ _ _, .sl L' sz 0 [] A cap u (Nat.zero_le _) h2 (by simp) (.inr (.inl hcap)) (by simp) (by simp)⟩
      · rcases hat with ⟨h0, _⟩ | ⟨b, o, cur, et, fr, hs, rfl, hh, hnf, hroom⟩
        · exact absurd h0.symm hz.1
        · obtain ⟨σ1, hsub, hM⟩ := relabelLL hσ es' es u h6 hes hd hz.2 hz'.2 hn.2 hn'.2
          let σ0 : Sig := fun q => if q = L' then some (b, o + off * sz, sz) else none
          have h0 : Sub σ [L] σ0 [L'] := by
            refine ⟨?_, ?_⟩
            · intro q b1 o1 s1 h
              simp only [σ0] at h
              split at h
              · rename_i hq
                obtain ⟨rfl, rfl, rfl⟩ : b = b1 ∧ o + off * sz = o1 ∧ sz = s1 := by simpa using h
                exact ⟨by simp [hq], L, by simp, o, sz, hs⟩
              · cases h
            · intro q q' b1 o1 s1 o2 s2 h h'
              simp only [σ0] at h h'
              split at h <;> split at h' <;> simp_all
          have hb := Sub.both hσ h0 hsub (by simpa using hn.1) (by simpa using hn'.1)
          refine ⟨both σ0 σ1, hb, ?_⟩
          rw [hlen]
          have hσ0 : both σ0 σ1 L' = some (b, o + off * sz, sz) := both_left (by simp [σ0])
          have hmore : ∀ q b1 o1 s1, σ1 q = some (b1, o1, s1) → both σ0 σ1 q = some (b1, o1, s1) := by
            intro q b1 o1 s1 h
            refine both_right ?_ h
            have := (hsub.dom q b1 o1 s1 h).1
            simp only [σ0]
            rw [if_neg]
            rintro rfl
            exact hn'.1 this
          have hpos : ∀ (j : Nat) e' (c : Nat) x', es'[j]? = some e' → e'[c]? = some x' → ∃ e x, es[j]? = some e ∧ e[c]? = some x := by
            intro j e' c x' hj hc
            have h1 := congrArg (fun l => l[j]?) hes
            simp only [V.eraseLL, travLL_get, hj, Option.map_some] at h1
            obtain ⟨e, hje, hee⟩ := Option.map_eq_some_iff.1 h1
            have h2 := congrArg (fun l => l[c]?) hee
            simp only [travL_get, hc, Option.map_some] at h2
            obtain ⟨x, hcx, _⟩ := Option.map_eq_some_iff.1 h2
            exact ⟨e, x, hje, hcx⟩
          refine .sl L' sz 0 es' A cap u (by omega) h2 ?_ (.inr (.inr ⟨_, hA, .inr ⟨b, o + off * sz, cur, et, fr, hσ0, by simp, hh, hnf, by omega⟩⟩)) ?_ ?_
          · intro e' he'
            obtain ⟨j, hj⟩ := List.mem_iff_getElem?.1 he'
            have h1 := congrArg (fun l => l[j]?) hes
            simp only [V.eraseLL, travLL_get, hj, Option.map_some] at h1
            obtain ⟨e, hje, hee⟩ := Option.map_eq_some_iff.1 h1
            have h2 := congrArg List.length hee
            rw [travL_len, travL_len] at h2
            rw [← h2]
            exact h3 e (List.mem_of_getElem? hje)
          · intro ad hA2 j e' c x' hj hc
            obtain ⟨e, x, hje, hcx⟩ := hpos j e' c x' hj hc
            exact h5 ad hA2 j e c x hje hcx
          · intro j e' c x' hj hc
            exact M.more hmore (fun h => hz'.2 (labels_in hj hc h)) (hM j e' c x' hj hc)
    | any => cases he'
    | bool => cases he'
    | int => cases he'
    | str => cases he'
    | nilP => cases he'
    | ptr => cases he'
    | fn => cases he'
    | agg => cases he'
    | tup => cases he'
  | .agg cs', r, v, hm, he, hd, hz, hz', hn, hn' => by
    have he' : V.erase r = .agg (V.eraseL cs') := he
    cases hm with
    | agg cs vs h1 h6 =>
      have h1' : V.agg (V.eraseL cs) = .agg (V.eraseL cs') := he'
      simp only [V.agg.injEq] at h1'
      have hlen : cs.length = cs'.length := by
        have := congrArg List.length h1'
        unfold V.eraseL at this
        rw [travL_len, travL_len] at this
        exact this
      obtain ⟨σ1, hsub, hM⟩ := relabelL hσ cs' cs (fun c => vs.getD c undef) (fun c x hx => h6 c x _ hx (by
        have hc := (List.getElem?_eq_some_iff.1 hx).1
        rw [List.getD_eq_getElem?_getD, List.getElem?_eq_getElem (by omega)]; rfl)) h1' hd hz hz' hn hn'
      refine ⟨σ1, hsub, .agg cs' vs (by omega) fun c x u hx hu => ?_⟩
      have := hM c x hx
      rw [List.getD_eq_getElem?_getD, hu] at this
      exact this
    | any => cases he'
    | bool => cases he'
    | int => cases he'
    | str => cases he'
    | nil => cases he'
    | nilP => cases he'
    | ptr => cases he'
    | fn => cases he'
    | sl => cases he'
    | tup => cases he'
  | .tup cs', r, v, hm, he, hd, hz, hz', hn, hn' => by
    have he' : V.erase r = .tup (V.eraseL cs') := he
    cases hm with
    | tup cs vs h1 h6 =>
      have h1' : V.tup (V.eraseL cs) = .tup (V.eraseL cs') := he'
      simp only [V.tup.injEq] at h1'
      have hlen : cs.length = cs'.length := by
        have := congrArg List.length h1'
        unfold V.eraseL at this
        rw [travL_len, travL_len] at this
        exact this
      obtain ⟨σ1, hsub, hM⟩ := relabelL hσ cs' cs (fun c => vs.getD c undef) (fun c x hx => h6 c x _ hx (by
        have hc := (List.getElem?_eq_some_iff.1 hx).1
        rw [List.getD_eq_getElem?_getD, List.getElem?_eq_getElem (by omega)]; rfl)) h1' hd hz hz' hn hn'
      refine ⟨σ1, hsub, .tup cs' vs (by omega) fun c x u hx hu => ?_⟩
      have := hM c x hx
      rw [List.getD_eq_getElem?_getD, hu] at this
      exact this
    | any => cases he'
    | bool => cases he'
    | int => cases he'
    | str => cases he'
    | nil => cases he'
    | nilP => cases he'
    | ptr => cases he'
    | fn => cases he'
    | sl => cases he'
    | agg => cases he'
  | .ptr .., r, v, hm, he, hd, hz, hz', hn, hn' => by simp [V.dat] at hd
  | .fn .., r, v, hm, he, hd, hz, hz', hn, hn' => by simp [V.dat] at hd
  | .any, r, v, hm, he, hd, hz, hz', hn, hn' => by simp [V.dat] at hd
  | .nil _, r, v, hm, he, hd, hz, hz', hn, hn' => by simp [V.dat] at hd
  | .nilP, r, v, hm, he, hd, hz, hz', hn, hn' => by simp [V.dat] at hd
  | .bool b', r, v, hm, he, hd, hz, hz', hn, hn' => by
    have he' : V.erase r = .bool b' := he
    cases hm <;> first | cases he' | skip
    exact ⟨noSig, sub_none _ _ _, .bool _⟩
  | .int k' n', r, v, hm, he, hd, hz, hz', hn, hn' => by
    have he' : V.erase r = .int k' n' := he
    cases hm <;> first | cases he' | skip
    exact ⟨noSig, sub_none _ _ _, .int _ _⟩
  | .str s', r, v, hm, he, hd, hz, hz', hn, hn' => by
    have he' : V.erase r = .str s' := he
    cases hm <;> first | cases he' | skip
    exact ⟨noSig, sub_none _ _ _, .str _⟩
theorem relabelL (hσ : Inj σ) : ∀ (l rs : List V) (u : Nat → Value), (∀ (c : Nat) x, rs[c]? = some x → M base σ w x (u c)) → V.eraseL rs = V.eraseL l → V.datL l = true → 0 ∉ V.labelsL rs → 0 ∉ V.labelsL l →
    (V.labelsL rs).Nodup → (V.labelsL l).Nodup → ∃ σ', Sub σ (V.labelsL rs) σ' (V.labelsL l) ∧ ∀ (c : Nat) x, l[c]? = some x → M base σ' w x (u c)
  | [], rs, u, hm, he, hd, hz, hz', hn, hn' => ⟨noSig, sub_none _ _ _, by simp⟩
  | x' :: l, [], u, hm, he, hd, hz, hz', hn, hn' => by
    have he' : ([] : List V) = V.erase x' :: V.eraseL l := he
    cases he'
  | x' :: l, x :: rs, u, hm, he, hd, hz, hz', hn, hn' => by
    have he' : V.erase x :: V.eraseL rs = V.erase x' :: V.eraseL l := he
    simp only [List.cons.injEq] at he'
    simp only [V.datL, Bool.and_eq_true] at hd
    simp only [V.labelsL, List.mem_append, not_or] at hz hz'
    simp only [V.labelsL, List.nodup_append] at hn hn'
    obtain ⟨σ1, hs1, hM1⟩ := relabel hσ x' x (u 0) (hm 0 x rfl) he'.1 hd.1 hz.1 hz'.1 hn.1 hn'.1
    obtain ⟨σ2, hs2, hM2⟩ := relabelL hσ l rs (fun c => u (c + 1)) (fun c y hy => hm (c + 1) y hy) he'.2 hd.2 hz.2 hz'.2 hn.2.1 hn'.2.1
    have hb := Sub.both hσ hs1 hs2 (fun L h1 h2 => hn.2.2 L h1 L h2 rfl) (fun L h1 h2 => hn'.2.2 L h1 L h2 rfl)
    refine ⟨both σ1 σ2, hb, fun c y hy => ?_⟩
    cases c with
    | zero =>
      obtain rfl := Option.some.inj hy
      exact M.more (fun L b o s h => both_left h) hz'.1 hM1
    | succ c =>
      refine M.more (fun L b o s h => ?_) (fun h => hz'.2 (labels_in1 hy h)) (hM2 c y hy)
      refine both_right ?_ h
      cases h1 : σ1 L with
      | none => rfl
      | some p =>
        obtain ⟨b1, o1, s1⟩ := p
        exact absurd rfl (hn'.2.2 L (hs1.dom L b1 o1 s1 h1).1 L (hs2.dom L b o s h).1)
theorem relabelLL (hσ : Inj σ) : ∀ (l rs : List (List V)) (u : Nat → Nat → Value), (∀ (j : Nat) e (c : Nat) x, rs[j]? = some e → e[c]? = some x → M base σ w x (u j c)) → V.eraseLL rs = V.eraseLL l → V.datLL l = true →
    0 ∉ V.labelsLL rs → 0 ∉ V.labelsLL l → (V.labelsLL rs).Nodup → (V.labelsLL l).Nodup → ∃ σ', Sub σ (V.labelsLL rs) σ' (V.labelsLL l) ∧ ∀ (j : Nat) e (c : Nat) x, l[j]? = some e → e[c]? = some x → M base σ' w x (u j c)
  | [], rs, u, hm, he, hd, hz, hz', hn, hn' => ⟨noSig, sub_none _ _ _, by simp⟩
  | x' :: l, [], u, hm, he, hd, hz, hz', hn, hn' => by
    have he' : ([] : List (List V)) = V.eraseL x' :: V.eraseLL l := he
    cases he'
  | x' :: l, x :: rs, u, hm, he, hd, hz, hz', hn, hn' => by
    have he' : V.eraseL x :: V.eraseLL rs = V.eraseL x' :: V.eraseLL l := he
    simp only [List.cons.injEq] at he'
    simp only [V.datLL, Bool.and_eq_true] at hd
    simp only [V.labelsLL, List.mem_append, not_or] at hz hz'
    simp only [V.labelsLL, List.nodup_append] at hn hn'
    obtain ⟨σ1, hs1, hM1⟩ := relabelL hσ x' x (u 0) (fun c y hy => hm 0 x c y rfl hy) he'.1 hd.1 hz.1 hz'.1 hn.1 hn'.1
    obtain ⟨σ2, hs2, hM2⟩ := relabelLL hσ l rs (fun j => u (j + 1)) (fun j e c y hj hy => hm (j + 1) e c y hj hy) he'.2 hd.2 hz.2 hz'.2 hn.2.1 hn'.2.1
    have hb := Sub.both hσ hs1 hs2 (fun L h1 h2 => hn.2.2 L h1 L h2 rfl) (fun L h1 h2 => hn'.2.2 L h1 L h2 rfl)
    refine ⟨both σ1 σ2, hb, fun j e c y hj hy => ?_⟩
    cases j with
    | zero =>
      obtain rfl := Option.some.inj hj
      exact M.more (fun L b o s h => both_left h) (fun h => hz'.1 (labels_in1 hy h)) (hM1 c y hy)
    | succ j =>
      refine M.more (fun L b o s h => ?_) (fun h => hz'.2 (labels_in hj hy h)) (hM2 j e c y hj hy)
      refine both_right ?_ h
      cases h1 : σ1 L with
      | none => rfl
      | some p =>
        obtain ⟨b1, o1, s1⟩ := p
        exact absurd rfl (hn'.2.2 L (hs1.dom L b1 o1 s1 h1).1 L (hs2.dom L b o s h).1)
end
end
end Go.Proofs.YtliiphpbfambcaaGreatDoor.K

/- The judgement over abstract frames, and its rules for the code's forms. Nothing here depends on the program. -/
namespace Go.Proofs.YtliiphpbfambcaaGreatDoor.K
open Go Go.RowKit

structure Inv (base : Base) (σ : Sig) (w : World) (n : Nat) : Prop where
  bs : base.lim ≤ w.heap.size
  pos : 1 ≤ n
  zero : σ 0 = none
  fresh : ∀ L, n ≤ L → σ L = none
  own : ∀ L b o s, σ L = some (b, o, s) → base.lim ≤ b ∧ b < w.heap.size
  inj : Inj σ

structure Good (base : Base) (w0 : World) (hv : List Value) (t h : List V) (n : Nat) (σ : Sig) (a : Act) (w : World) : Prop where
  ts : Ms base σ w t a.tmps.toList
  hs : Ms base σ w h hv
  dfr : a.defers = []
  bel : Below base.lim w0 w
  inv : Inv base σ w n
  gk : Gk base w0

def Post (base : Base) (w0 : World) (hv : List Value) (Q : Exit → List V → List V → Nat → Prop) : Exit → Act → World → Prop :=
  fun e a' w' => ∃ t' h' n' σ', Q e t' h' n' ∧ Good base w0 hv t' h' n' σ' a' w'
def Ok (P : Program) (c : Code) (t h : List V) (n : Nat) (Q : Exit → List V → List V → Nat → Prop) : Prop :=
  ∀ base w0 hv σ a w, Good base w0 hv t h n σ a w → c.wp P (Post base w0 hv Q) a w

def thenQ (K : List V → List V → Nat → Prop) (Q : Exit → List V → List V → Nat → Prop) : Exit → List V → List V → Nat → Prop
  | .normal => K
  | e => Q e

section
variable {P : Program} {t h : List V} {n : Nat} {Q : Exit → List V → List V → Nat → Prop}

theorem Ok.mono {c : Code} {Q' : Exit → List V → List V → Nat → Prop} (hk : Ok P c t h n Q) (hq : ∀ e t h n, Q e t h n → Q' e t h n) : Ok P c t h n Q' :=
  fun base w0 hv σ a w g => wp_mono (hk base w0 hv σ a w g) fun _ _ _ ⟨t', h', n', σ', q, g'⟩ => ⟨t', h', n', σ', hq _ _ _ _ q, g'⟩

theorem Ok.seq {x y : Code} (hk : Ok P x t h n (thenQ (fun t' h' n' => Ok P y t' h' n' Q) Q)) : Ok P (.seq x y) t h n Q := by
  intro base w0 hv σ a w g
  refine wp_seq (wp_mono (hk base w0 hv σ a w g) ?_)
  rintro e a' w' ⟨t', h', n', σ', q, g'⟩
  cases e with
  | normal => exact q base w0 hv σ' a' w' g'
  | exit id => exact ⟨t', h', n', σ', q, g'⟩
  | goto l => exact ⟨t', h', n', σ', q, g'⟩
  | ret => exact ⟨t', h', n', σ', q, g'⟩
  | panic ch => exact ⟨t', h', n', σ', q, g'⟩
  | outgrown => exact ⟨t', h', n', σ', q, g'⟩

theorem Ok.skip (hq : Q .normal t h n) : Ok P .skip t h n Q := fun _ _ _ σ _ _ g => wp_skip ⟨t, h, n, σ, hq, g⟩
theorem Ok.label {l : Nat} (hq : Q .normal t h n) : Ok P (.label l) t h n Q := fun _ _ _ σ _ _ g => wp_label ⟨t, h, n, σ, hq, g⟩
theorem Ok.exit {id : Nat} (hq : Q (.exit id) t h n) : Ok P (.exit id) t h n Q := fun _ _ _ σ _ _ g => wp_exit ⟨t, h, n, σ, hq, g⟩
theorem Ok.ret (hq : Q .ret t h n) : Ok P .ret t h n Q := fun _ _ _ σ _ _ g => wp_ret ⟨t, h, n, σ, hq, g⟩

def blockQ (id : Nat) (Q : Exit → List V → List V → Nat → Prop) : Exit → List V → List V → Nat → Prop
  | .exit id' => if id' = id then Q .normal else Q (.exit id')
  | e => Q e
theorem Ok.block {id : Nat} {c : Code} (hk : Ok P c t h n (blockQ id Q)) : Ok P (.block id c) t h n Q := by
  intro base w0 hv σ a w g
  refine wp_block (wp_mono (hk base w0 hv σ a w g) ?_)
  rintro e a' w' ⟨t', h', n', σ', q, g'⟩
  cases e with
  | normal => exact ⟨t', h', n', σ', q, g'⟩
  | exit id' =>
    simp only [blockQ] at q
    simp only [Exit.inBlock]
    split at q
    · rw [if_pos (by assumption)]; exact ⟨t', h', n', σ', q, g'⟩
    · rw [if_neg (by assumption)]; exact ⟨t', h', n', σ', q, g'⟩
  | goto l => exact ⟨t', h', n', σ', q, g'⟩
  | ret => exact ⟨t', h', n', σ', q, g'⟩
  | panic ch => exact ⟨t', h', n', σ', q, g'⟩
  | outgrown => exact ⟨t', h', n', σ', q, g'⟩

theorem Ok.loop {τ : Type} {c : Code} (I : τ → List V → List V → Nat → Prop) (m : τ → Nat) (x : τ) (h0 : I x t h n)
    (round : ∀ x t h n, I x t h n → Ok P c t h n (thenQ (fun t' h' n' => ∃ y, I y t' h' n' ∧ m y < m x) Q)) : Ok P (.loop c) t h n Q := by
  intro base w0 hv σ a w g
  refine wp_loop_ghost (fun k a w => ∃ x t h n σ, m x = k ∧ I x t h n ∧ Good base w0 hv t h n σ a w) (m x) ⟨x, t, h, n, σ, rfl, h0, g⟩ ?_
  rintro k a w ⟨x, t, h, n, σ, rfl, hI, g⟩
  refine wp_mono (round x t h n hI base w0 hv σ a w g) ?_
  rintro e a' w' ⟨t', h', n', σ', q, g'⟩
  cases e with
  | normal => obtain ⟨y, hy, hlt⟩ := q; exact ⟨m y, hlt, y, t', h', n', σ', rfl, hy, g'⟩
  | exit id => exact ⟨t', h', n', σ', q, g'⟩
  | goto l => exact ⟨t', h', n', σ', q, g'⟩
  | ret => exact ⟨t', h', n', σ', q, g'⟩
  | panic ch => exact ⟨t', h', n', σ', q, g'⟩
  | outgrown => exact ⟨t', h', n', σ', q, g'⟩

def nth : List V → Nat → V
  | [], _ => .any
  | x :: _, 0 => x
  | _ :: l, i + 1 => nth l i
theorem nth_eq (l : List V) (i : Nat) : nth l i = l.getD i .any := by
  induction l generalizing i with
  | nil => rfl
  | cons x l ih => cases i with
    | zero => rfl
    | succ i => simp [nth, ih]
def constV : Value → V
  | .int k n => .int k n
  | .bool b => .bool b
  | .string s => .str s.data.toList
  | .slice none 0 0 => .nil 0
  | .pointer none => .nilP
  | _ => .any
def opnd (t : List V) : Operand → V
  | .tmp i => nth t i
  | .const v => constV v
  | .func f => .fn f []
  | .global _ => .any

theorem constV_M (base : Base) (σ : Sig) (w : World) (v : Value) : M base σ w (constV v) v := by
  unfold constV
  split
  · exact .int _ _
  · exact .bool _
  · rename_i s; exact .str s.data.toList
  · exact .nil 0 none
  · exact .nilP
  · exact .any _
theorem opnd_M {base : Base} {σ : Sig} {w : World} {a : Act} (ht : Ms base σ w t a.tmps.toList) (x : Operand) : M base σ w (opnd t x) (a.eval x) := by
  cases x with
  | tmp i =>
    show M base σ w (nth t i) (a.tmps.getD i undef)
    rw [nth_eq]
    by_cases hi : i < t.length
    · have h1 : t[i]? = some t[i] := List.getElem?_eq_getElem hi
      have hl : i < a.tmps.toList.length := ht.1 ▸ hi
      have h2 : a.tmps.toList[i]? = some a.tmps.toList[i] := List.getElem?_eq_getElem hl
      have hm := ht.2 i _ _ h1 h2
      have e1 : t.getD i .any = t[i] := by simp [List.getD_eq_getElem?_getD, h1]
      have e2 : a.tmps.getD i undef = a.tmps.toList[i] := by
        have : i < a.tmps.size := by simpa using hl
        simp [Array.getD, this]
      rw [e1, e2]; exact hm
    · rw [List.getD_eq_getElem?_getD, List.getElem?_eq_none (Nat.le_of_not_lt hi)]
      exact .any _
  | const v => exact constV_M base σ w v
  | func f => exact .fn f [] [] rfl (by simp)
  | global g => exact .any _

theorem Ok.cond {c : Operand} {x y : Code} {b : Bool} (hc : opnd t c = .bool b) (hx : b = true → Ok P x t h n Q) (hy : b = false → Ok P y t h n Q) : Ok P (.cond c x y) t h n Q := by
  intro base w0 hv σ a w g
  have hm := opnd_M g.ts c
  rw [hc] at hm
  have hv' : a.eval c = .bool b := by generalize a.eval c = v at hm; cases hm; rfl
  exact wp_cond_split hv' (fun e => hx e base w0 hv σ a w g) (fun e => hy e base w0 hv σ a w g)
theorem Ok.cond_true {c : Operand} {x y : Code} (hc : opnd t c = .bool true) (hx : Ok P x t h n Q) : Ok P (.cond c x y) t h n Q := Ok.cond hc (fun _ => hx) (fun e => by cases e)
theorem Ok.cond_false {c : Operand} {x y : Code} (hc : opnd t c = .bool false) (hy : Ok P y t h n Q) : Ok P (.cond c x y) t h n Q := Ok.cond hc (fun e => by cases e) (fun _ => hy)

def putV (t : List V) : Option Tmp → V → List V
  | some d, v => t.set d v
  | none, _ => t
theorem Ms.put {base : Base} {σ : Sig} {w : World} {a : Act} (ht : Ms base σ w t a.tmps.toList) (d : Option Tmp) {x : V} {v : Value} (hv : M base σ w x v) : Ms base σ w (putV t d x) (a.put d v).tmps.toList := by
  cases d with
  | none => exact ht
  | some d =>
    show Ms base σ w (t.set d x) (a.tmps.setIfInBounds d v).toList
    rw [Array.toList_setIfInBounds]
    refine ⟨by rw [List.length_set, List.length_set]; exact ht.1, fun i y u hy hu => ?_⟩
    rw [List.getElem?_set] at hy hu
    by_cases hd : d = i
    · subst hd
      rw [if_pos rfl] at hy hu
      split at hy
      · split at hu
        · obtain rfl := Option.some.inj hy
          obtain rfl := Option.some.inj hu
          exact hv
        · cases hu
      · cases hy
    · rw [if_neg hd] at hy hu
      exact ht.2 i y u hy hu

def V.le : V → V → Prop := fun x y => x = y ∨ y = .any ∨ ∃ L sz, x = .nil sz ∧ y = .sl L sz 0 []
theorem Ok.forget {c : Code} {t' : List V} (hl : t.length = t'.length) (hle : ∀ (i : Nat) x y, t[i]? = some x → t'[i]? = some y → V.le x y) (hk : Ok P c t' h n Q) : Ok P c t h n Q := by
  intro base w0 hv σ a w g
  refine hk base w0 hv σ a w ⟨⟨by rw [← hl]; exact g.ts.1, fun i y u hy hu => ?_⟩, g.hs, g.dfr, g.bel, g.inv, g.gk⟩
  have hi : i < t.length := by have := (List.getElem?_eq_some_iff.1 hy).1; omega
  have h1 : t[i]? = some t[i] := List.getElem?_eq_getElem hi
  rcases hle i _ y h1 hy with rfl | rfl | ⟨L, sz, he, rfl⟩
  · exact g.ts.2 i _ u h1 hu
  · exact .any _
  · have hm := g.ts.2 i _ u h1 hu
    rw [he] at hm
    cases hm with
    | nil _ A => exact .sl L sz 0 [] A 0 (fun _ _ => undef) (Nat.le_refl _) (Nat.zero_le _) (by simp) (.inr (.inl rfl)) (by simp) (by simp)
theorem Ok.bump {c : Code} {n' : Nat} (hn : n ≤ n') (hk : Ok P c t h n' Q) : Ok P c t h n Q :=
  fun base w0 hv σ a w g => hk base w0 hv σ a w ⟨g.ts, g.hs, g.dfr, g.bel, ⟨g.inv.bs, by have := g.inv.pos; omega, g.inv.zero, fun L hL => g.inv.fresh L (by omega), g.inv.own, g.inv.inj⟩, g.gk⟩
end

def OpOk (P : Program) (o : Oper) (t h : List V) (n : Nat) (t' h' : List V) (n' : Nat) : Prop :=
  ∀ base w0 hv σ a w, Good base w0 hv t h n σ a w → ∀ (K : Act → World → Prop) (Q : Exit → Act → World → Prop),
    (∀ σ' a' w', Good base w0 hv t' h' n' σ' a' w' → K a' w') → o.wp P a w K Q
def OkOps (P : Program) (ops : Array Oper) (l : List Oper) (t h : List V) (n : Nat) (Q : Exit → List V → List V → Nat → Prop) : Prop :=
  ∀ base w0 hv σ a w, Good base w0 hv t h n σ a w → wpList P ops (Post base w0 hv Q) l a w

section
variable {P : Program} {t h : List V} {n : Nat} {Q : Exit → List V → List V → Nat → Prop} {ops : Array Oper} {o : Oper} {l : List Oper}
theorem Ok.region {id : Nat} {l : List Oper} (hk : OkOps P l.toArray l t h n Q) : Ok P (.region id l.toArray false) t h n Q :=
  fun base w0 hv σ a w g => wp_region_lit (hk base w0 hv σ a w g)
theorem OkOps.nil (hq : Q .normal t h n) : OkOps P ops [] t h n Q := fun _ _ _ σ _ _ g => wpList_nil ⟨t, h, n, σ, hq, g⟩

theorem wanted_none {o : Oper} (hg : o.guard = none) (y : Nat → Option Bool) : Region.wanted o y = true := by simp [Region.wanted, hg]
theorem OkOps.step {t' h' : List V} {n' : Nat} (hg : o.guard = none) (ho : OpOk P o t h n t' h' n') (hk : OkOps P ops l t' h' n' Q) : OkOps P ops (o :: l) t h n Q := by
  intro base w0 hv σ a w g
  unfold wpList
  rw [if_pos (wanted_none hg _)]
  exact .inl (ho base w0 hv σ a w g _ _ fun σ' a' w' g' => hk base w0 hv σ' a' w' g')

theorem yielded_of {base : Base} {σ : Sig} {w : World} {a : Act} (ht : Ms base σ w t a.tmps.toList) {j d : Nat} {b : Bool} (hd : (ops[j]?).bind (·.dst) = some d) (hb : nth t d = .bool b) : yielded ops a.tmps j = some b := by
  unfold yielded
  rw [hd]
  show (match a.tmps[d]? with | some (.bool b) => some b | _ => none) = some b
  rw [nth_eq] at hb
  have hi : d < t.length := by
    rcases Nat.lt_or_ge d t.length with h | h
    · exact h
    · rw [List.getD_eq_getElem?_getD, List.getElem?_eq_none h] at hb; cases hb
  have h1 : t[d]? = some t[d] := List.getElem?_eq_getElem hi
  have hl : d < a.tmps.toList.length := by have := ht.1; omega
  have h2 : a.tmps.toList[d]? = some a.tmps.toList[d] := List.getElem?_eq_getElem hl
  have hm := ht.2 d _ _ h1 h2
  have e1 : t.getD d .any = t[d] := by simp [List.getD_eq_getElem?_getD, h1]
  rw [← e1, hb] at hm
  have e2 : a.tmps[d]? = some a.tmps.toList[d] := by
    have : d < a.tmps.size := by simpa using hl
    simp [this]
  rw [e2]
  generalize a.tmps.toList[d] = v at hm
  cases hm
  rfl
theorem OkOps.guard {t' h' : List V} {n' : Nat} {j d : Nat} {b want : Bool} (hg : o.guard = some (j, want)) (hd : (ops[j]?).bind (·.dst) = some d) (hb : nth t d = .bool b)
    (hon : b = want → OpOk P o t h n t' h' n' ∧ OkOps P ops l t' h' n' Q) (hoff : b = !want → OkOps P ops l (putV t o.dst .any) h n Q) : OkOps P ops (o :: l) t h n Q := by
  intro base w0 hv σ a w g
  have hy := yielded_of (ops := ops) g.ts hd hb
  have hw : Region.wanted o (yielded ops a.tmps) = (b == want) := by
    simp only [Region.wanted, hg, hy]
    cases b <;> cases want <;> rfl
  unfold wpList
  rw [hw]
  by_cases hbw : b = want
  · obtain ⟨ho, hk⟩ := hon hbw
    rw [if_pos (by simp [hbw])]
    exact .inl (ho base w0 hv σ a w g _ _ fun σ' a' w' g' => hk base w0 hv σ' a' w' g')
  · rw [if_neg (by simp [hbw])]
    exact hoff (by cases b <;> cases want <;> simp_all) base w0 hv σ _ w ⟨g.ts.put _ (.any _), g.hs, by cases o.dst <;> exact g.dfr, g.bel, g.inv, g.gk⟩

theorem OpOk.value {x : V} (hr : ∀ base w0 hv σ a w, Good base w0 hv t h n σ a w → ∃ v m, (execOp a.eval o).run P w = .ok (.value v) (w.drewN m) ∧ M base σ w x v) : OpOk P o t h n (putV t o.dst x) h n := by
  intro base w0 hv σ a w g K Q hK
  obtain ⟨v, m, hrun, hm⟩ := hr base w0 hv σ a w g
  have hk : Keeps none base σ w σ (w.drewN m) := ⟨fun _ h => ⟨h, rfl⟩, fun _ _ _ _ _ h => ⟨h, rfl⟩⟩
  unfold Oper.wp
  rw [hrun]
  exact hK σ _ _ ⟨(g.ts.put _ hm).keep hk, g.hs.keep hk, by cases o.dst <;> exact g.dfr, ⟨g.bel.os, g.bel.tape, g.bel.output, g.bel.size, g.bel.block⟩, ⟨g.inv.bs, g.inv.pos, g.inv.zero, g.inv.fresh, g.inv.own, g.inv.inj⟩, g.gk⟩
end
end Go.Proofs.YtliiphpbfambcaaGreatDoor.K

/- What the machine's operations make of abstract values: those that write nothing that is there. Nothing here depends on the program. -/
namespace Go.Proofs.YtliiphpbfambcaaGreatDoor.K
open Go Go.RowKit

inductive Kind where
  | bool | int (k : IntKind) | str | slice (e : TypeId) | struct (fs : List (Nat × TypeId)) | ptr (e : TypeId) | other
structure TInfo where
  kind : Kind
  size : Nat
  bytes : Nat
  zero : List V
def Kind.fits : Kind → TypeDesc → Prop
  | .bool, d => d = .bool
  | .int k, d => d = .int k
  | .str, d => d = .string
  | .slice e, d => d = .slice e
  | .struct fs, .struct fields => fields.toList.map (fun f => (f.offset, f.type)) = fs
  | .struct _, _ => False
  | .ptr e, d => d = .pointer e
  | .other, _ => True
def Kind.isAgg : Kind → Bool
  | .struct _ => true
  | _ => false
def zeroOk : V → Value → Bool
  | .any, _ => true
  | .nil _, .slice none 0 0 => true
  | .int k n, .int k' n' => k == k' && n == n'
  | .bool b, .bool b' => b == b'
  | .str s, .string s' => s == s'.data.toList
  | .nilP, .pointer none => true
  | _, _ => false
def zerosOk : List V → List Value → Bool
  | [], [] => true
  | x :: xs, v :: vs => zeroOk x v && zerosOk xs vs
  | _, _ => false
structure TOk (P : Program) (t : TypeId) (i : TInfo) : Prop where
  und : ∃ d, P.underlying t = some d ∧ i.kind.fits d ∧ (i.kind.isAgg = false → (match d with | .struct _ | .array _ _ => true | _ => false) = false)
  inf : ∃ x, P.info? t = some x ∧ x.size = i.size ∧ x.bytes = i.bytes ∧ (i.zero ≠ [] → ∃ z, x.zero = some z ∧ zerosOk i.zero z.cells.toList = true)
abbrev Tab := TypeId → Option TInfo
def TabOk (P : Program) (ti : Tab) : Prop := ∀ t i, ti t = some i → TOk P t i

theorem zeroOk_M {base : Base} {σ : Sig} {w : World} {x : V} {v : Value} (h : zeroOk x v = true) : M base σ w x v := by
  unfold zeroOk at h
  split at h
  · exact .any _
  · exact .nil _ none
  · simp only [Bool.and_eq_true, beq_iff_eq] at h; obtain ⟨rfl, rfl⟩ := h; exact .int _ _
  · simp only [beq_iff_eq] at h; subst h; exact .bool _
  · simp only [beq_iff_eq] at h; subst h; exact .str _
  · exact .nilP
  · cases h
theorem zerosOk_Ms {base : Base} {σ : Sig} {w : World} : ∀ {t : List V} {l : List Value}, zerosOk t l = true → Ms base σ w t l
  | [], [], _ => ⟨rfl, by simp⟩
  | [], _ :: _, h => by simp [zerosOk] at h
  | _ :: _, [], h => by simp [zerosOk] at h
  | x :: xs, v :: vs, h => by
    simp only [zerosOk, Bool.and_eq_true] at h
    have ih := zerosOk_Ms (base := base) (σ := σ) (w := w) h.2
    refine ⟨by simp [ih.1], fun i y u hy hu => ?_⟩
    cases i with
    | zero =>
      obtain rfl := Option.some.inj hy
      obtain rfl := Option.some.inj hu
      exact zeroOk_M h.1
    | succ i => exact ih.2 i y u hy hu

def cellsV : V → List V
  | .agg cs => cs
  | x => [x]
def V.known : V → Bool
  | .any => false
  | _ => true
theorem cells_M {base : Base} {σ : Sig} {w : World} {x : V} {v : Value} (hx : x.known = true) (h : M base σ w x v) : Ms base σ w (cellsV x) v.cells.toList := by
  cases h with
  | any => cases hx
  | agg cs vs h1 h6 => exact ⟨by simpa [Value.cells, cellsV] using h1, fun i y u hy hu => h6 i y u hy (by simpa [Value.cells] using hu)⟩
  | _ =>
    refine ⟨rfl, fun i y u hy hu => ?_⟩
    cases i with
    | succ i => simp [cellsV] at hy
    | zero =>
      obtain rfl := Option.some.inj hy
      obtain rfl := Option.some.inj hu
      first
        | exact .bool _ | exact .int _ _ | exact .str _ | exact .nil _ _ | exact .nilP
        | exact .sl _ _ _ _ _ _ _ (by assumption) (by assumption) (by assumption) (by assumption) (by assumption) (by assumption)
        | exact .ptr _ _ _ _ _ _ (by assumption) (by assumption) (by assumption)
        | exact .fn _ _ _ (by assumption) (by assumption)
        | exact .tup _ _ (by assumption) (by assumption)

def V.one : V → Bool
  | .any => false
  | .agg _ => false
  | .tup _ => false
  | _ => true
theorem one_cell {base : Base} {σ : Sig} {w : World} {x : V} {v : Value} (hx : x.one = true) (h : M base σ w x v) : v.oneCell' = true := by
  cases h <;> first | rfl | cases hx

def addSig (σ : Sig) (n b o sz : Nat) : Sig := fun L => if L = n then some (b, o, sz) else σ L
theorem addSig_self (σ : Sig) (n b o sz : Nat) : addSig σ n b o sz n = some (b, o, sz) := by simp [addSig]
theorem addSig_ne {σ : Sig} {n b o sz L : Nat} (h : L ≠ n) : addSig σ n b o sz L = σ L := by simp [addSig, h]
theorem Old.alloc {base : Base} {σ : Sig} {w : World} {k : Nat} (h : Old base σ w k) (ob : Obj) (n o sz : Nat) : Old base (addSig σ n w.heap.size o sz) (w.alloc ob) k := by
  refine ⟨by have := h.1; simp; omega, fun L b o' s hs => ?_, h.2.2⟩
  by_cases hL : L = n
  · subst hL
    rw [addSig_self] at hs
    obtain ⟨rfl, _⟩ : w.heap.size = b ∧ _ := by simpa using hs
    have := h.1
    omega
  · rw [addSig_ne hL] at hs
    exact h.2.1 L b o' s hs
theorem nf_zero (n : Nat) : Nf (0, 0) n := .inl (Nat.le_refl _)
theorem below_alloc' {base : Nat} {w0 w : World} (h : Below base w0 w) (hb : base ≤ w.heap.size) (ob : Obj) : Below base w0 (w.alloc ob) := h.alloc hb ob
theorem below_drew' {base : Nat} {w0 w : World} (h : Below base w0 w) (m : Nat) : Below base w0 (w.drewN m) := ⟨h.os, h.tape, h.output, h.size, h.block⟩

def New (base : Base) (σ : Sig) (w : World) (r c : Nat) (X : V) (u : Value) (w' : World) : Prop :=
  ∃ σ' : Sig, Below w.heap.size w w' ∧ (∀ L, ¬(r ≤ L ∧ L < r + c) → σ' L = σ L) ∧ (∀ L b o s, r ≤ L → L < r + c → σ' L = some (b, o, s) → w.heap.size ≤ b ∧ b < w'.heap.size) ∧
    (∀ L L' b o s o' s', r ≤ L → L < r + c → r ≤ L' → L' < r + c → σ' L = some (b, o, s) → σ' L' = some (b, o', s') → L = L') ∧ M base σ' w' X u
def OpS (P : Program) (o : Oper) (t : List V) (r : Nat) (X : V) (c : Nat) : Prop :=
  ∀ base σ w (ρ : Operand → Value), base.lim ≤ w.heap.size → σ 0 = none → (∀ L b o s, σ L = some (b, o, s) → b < w.heap.size) → (∀ y, M base σ w (opnd t y) (ρ y)) → 1 ≤ r → (∀ L, r ≤ L → L < r + c → σ L = none) → Gw w →
    (∃ u w', (execOp ρ o).run P w = .ok (.value u) w' ∧ New base σ w r c X u w') ∨
    (∃ f args, (execOp ρ o).run P w = .ok (.enter f args) w ∧ Calls P f args w fun e w' => ∃ u, e = .returned u ∧ New base σ w r c X u w')

section
variable {P : Program} {t h : List V} {n r c : Nat} {o : Oper} {X : V}
theorem New.keeps {base : Base} {σ : Sig} {w w' : World} {u : Value} (hw : New base σ w r c X u w') (ho : ∀ L b o s, σ L = some (b, o, s) → b < w.heap.size) (hf : ∀ L, r ≤ L → L < r + c → σ L = none) :
    ∃ σ', Keeps none base σ w σ' w' ∧ (∀ L, ¬(r ≤ L ∧ L < r + c) → σ' L = σ L) ∧ (∀ L b o s, r ≤ L → L < r + c → σ' L = some (b, o, s) → w.heap.size ≤ b ∧ b < w'.heap.size) ∧
      (∀ L L' b o s o' s', r ≤ L → L < r + c → r ≤ L' → L' < r + c → σ' L = some (b, o, s) → σ' L' = some (b, o', s') → L = L') ∧ M base σ' w' X u ∧ Below w.heap.size w w' := by
  obtain ⟨σ', bel, h1, h2, h3, h4⟩ := hw
  refine ⟨σ', ⟨fun k hk => ⟨⟨by have := hk.1; have := bel.size; omega, fun L b o s hs => ?_, hk.2.2⟩, bel.block k hk.1⟩, fun L b o s _ hs => ⟨?_, bel.block b (ho L b o s hs)⟩⟩, h1, h2, h3, h4, bel⟩
  · by_cases hin : r ≤ L ∧ L < r + c
    · have := (h2 L b o s hin.1 hin.2 hs).1
      have := hk.1
      omega
    · rw [h1 L hin] at hs
      exact hk.2.1 L b o s hs
  · rw [h1 L]
    · exact hs
    · rintro ⟨ha, hb'⟩
      rw [hf L ha hb'] at hs
      cases hs
theorem Below.after {b : Nat} {w0 w w' : World} (h1 : Below b w0 w) (h2 : Below w.heap.size w w') (hb : b ≤ w.heap.size) : Below b w0 w' :=
  ⟨h2.os.trans h1.os, h2.tape.trans h1.tape, h2.output.trans h1.output, Nat.le_trans h1.size h2.size, fun k hk => (h2.block k (by omega)).trans (h1.block k hk)⟩

theorem OpS.run (hs : OpS P o t r X c) {base : Base} {w0 : World} {hv : List Value} {t2 h2 : List V} {N : Nat} {σ : Sig} {a : Act} {w : World} (g : Good base w0 hv t2 h2 N σ a w) (hr : 1 ≤ r) (hf : ∀ L, r ≤ L → L < r + c → σ L = none)
    (ht : ∀ y, M base σ w (opnd t y) (a.eval y)) (K : Act → World → Prop) (Q : Exit → Act → World → Prop)
    (hK : ∀ σ' a' w', Good base w0 hv (putV t2 o.dst X) h2 (max N (r + c)) σ' a' w' → (∀ L, ¬(r ≤ L ∧ L < r + c) → σ' L = σ L) → K a' w') : o.wp P a w K Q := by
  have fin : ∀ u w', New base σ w r c X u w' → K (a.put o.dst u) w' := by
    intro u w' hn
    obtain ⟨σ', hk, h1, h2, h3, h4, bel⟩ := hn.keeps (fun L b o s h => (g.inv.own L b o s h).2) hf
    refine hK σ' _ w' ⟨(g.ts.keep hk).put _ h4, g.hs.keep hk, by cases o.dst <;> exact g.dfr, Below.after g.bel bel g.inv.bs, ⟨Nat.le_trans g.inv.bs bel.size, by have := g.inv.pos; omega, ?_, ?_, ?_, ?_⟩, g.gk⟩ h1
    · rw [h1 0 (by omega)]; exact g.inv.zero
    · intro L hL
      rw [h1 L (by omega)]
      exact g.inv.fresh L (by omega)
    · intro L b o s hL
      by_cases hin : r ≤ L ∧ L < r + c
      · have := h2 L b o s hin.1 hin.2 hL
        have := g.inv.bs
        omega
      · rw [h1 L hin] at hL
        have := g.inv.own L b o s hL
        have := bel.size
        omega
    · intro L L' b o s o' s' hL hL'
      by_cases hin : r ≤ L ∧ L < r + c <;> by_cases hin' : r ≤ L' ∧ L' < r + c
      · exact h3 L L' b o s o' s' hin.1 hin.2 hin'.1 hin'.2 hL hL'
      · rw [h1 L' hin'] at hL'
        have := (g.inv.own L' b o' s' hL').2
        have := (h2 L b o s hin.1 hin.2 hL).1
        omega
      · rw [h1 L hin] at hL
        have := (g.inv.own L b o s hL).2
        have := (h2 L' b o' s' hin'.1 hin'.2 hL').1
        omega
      · rw [h1 L hin] at hL
        rw [h1 L' hin'] at hL'
        exact g.inv.inj L L' b o s o' s' hL hL'
  unfold Oper.wp
  rcases hs base σ w a.eval g.inv.bs g.inv.zero (fun L b o s h => (g.inv.own L b o s h).2) ht hr hf (g.gk.at g.bel) with ⟨u, w', hrun, hn⟩ | ⟨f, args, hrun, hc⟩
  · rw [hrun]
    exact fin u w' hn
  · rw [hrun, Oper.upon_enter]
    refine hc.mono ?_
    rintro e w' ⟨u, rfl, hn⟩
    exact fin u w' hn
theorem OpS.ok (hs : OpS P o t n X c) : OpOk P o t h n (putV t o.dst X) h (n + c) := by
  intro base w0 hv σ a w g K Q hK
  refine hs.run g g.inv.pos (fun L h1 _ => g.inv.fresh L h1) (fun y => opnd_M g.ts y) K Q fun σ' a' w' g' _ => ?_
  rw [show max n (n + c) = n + c by omega] at g'
  exact hK σ' a' w' g'

theorem OpS.val (hr : ∀ base σ w (ρ : Operand → Value), (∀ y, M base σ w (opnd t y) (ρ y)) → ∃ v, (execOp ρ o).run P w = .ok (.value v) w ∧ M base σ w X v) : OpS P o t r X 0 := by
  intro base σ w ρ _ _ _ hρ _ _ _
  obtain ⟨v, h1, h2⟩ := hr base σ w ρ hρ
  exact .inl ⟨v, w, h1, σ, Below.refl _ _, fun _ _ => rfl, fun L _ _ _ h1 h2 => by omega, fun _ _ _ _ _ _ _ h1 h2 => by omega, h2⟩
theorem OpS.newVar {e : List V} (hx : X = .ptr r 0 0 e)
    (hr : ∀ base σ w (ρ : Operand → Value), (∀ y, M base σ w (opnd t y) (ρ y)) → ∃ cs ty, (execOp ρ o).run P w = .ok (.value (.pointer (some ⟨w.heap.size, 0, none⟩))) (w.alloc (.cells cs ty)) ∧ Ms base σ w e cs.toList) :
    OpS P o t r X 1 := by
  subst hx
  intro base σ w ρ _ _ ho hρ _ hf _
  obtain ⟨cs, ty, hrun, hm⟩ := hr base σ w ρ hρ
  have hfr : σ r = none := hf r (Nat.le_refl _) (by omega)
  have hk : Keeps none base σ w (addSig σ r w.heap.size 0 e.length) (w.alloc (.cells cs ty)) := by
    refine ⟨fun k hk => ⟨Old.alloc hk _ _ _ _, Below.heap_alloc w _ k hk.1⟩, fun L b o' s _ h => ⟨?_, Below.heap_alloc w _ b (ho L b o' s h)⟩⟩
    rw [addSig_ne]
    · exact h
    · rintro rfl
      rw [hfr] at h
      cases h
  have hlen : e.length = cs.size := by simpa using hm.1
  have hsz : (w.alloc (.cells cs ty)).heap.size = w.heap.size + 1 := by simp
  refine .inl ⟨_, _, hrun, addSig σ r w.heap.size 0 e.length, (Below.refl _ _).alloc (Nat.le_refl _) _, fun L hL => addSig_ne (by omega), ?_, fun L L' b o s o' s' h1 h2 h3 h4 _ _ => by omega, ?_⟩
  · intro L b o' s h1 h2 h
    obtain rfl : L = r := by omega
    rw [addSig_self] at h
    obtain ⟨rfl, _⟩ : w.heap.size = b ∧ _ := by simpa using h
    omega
  have hadd : (⟨w.heap.size, 0, none⟩ : Addr) = (⟨w.heap.size, 0, none⟩ : Addr).add 0 := rfl
  rw [hadd]
  have hat : At base (addSig σ r w.heap.size 0 e.length) (w.alloc (.cells cs ty)) r e.length (0 * e.length) e.length ⟨w.heap.size, 0, none⟩ :=
    .inr ⟨w.heap.size, 0, cs, ty, (0, 0), addSig_self _ _ _ _ _, by simp, heap_alloc_new w _, nf_zero _, by simp [hlen]⟩
  refine .ptr r 0 0 e ⟨w.heap.size, 0, none⟩ (fun c => cs.toList.getD c undef) hat ?_ ?_
  · intro c x hc
    have hlt : c < cs.toList.length := by have := (List.getElem?_eq_some_iff.1 hc).1; have := hm.1; omega
    rw [add_none, cell_at (heap_alloc_new w _)]
    rw [List.getD_eq_getElem?_getD, List.getElem?_eq_getElem hlt]
    have hlt' : c < cs.size := by simpa using hlt
    simp [hlt']
  · intro c x hc
    have hlt : c < cs.toList.length := by have := (List.getElem?_eq_some_iff.1 hc).1; have := hm.1; omega
    rw [List.getD_eq_getElem?_getD, List.getElem?_eq_getElem hlt]
    exact (hm.2 c x _ hc (List.getElem?_eq_getElem hlt)).keep' hk

theorem OpS.newSlice {sz : Nat} {es : List (List V)} (hx : X = .sl r sz 0 es) (hsz : ∀ e ∈ es, e.length = sz)
    (hr : ∀ base σ w (ρ : Operand → Value), (∀ y, M base σ w (opnd t y) (ρ y)) → ∃ cs ty fr m cap, (execOp ρ o).run P w = .ok (.value (.slice (some ⟨w.heap.size, 0, none⟩) es.length cap)) ((w.drewN m).alloc (.cells cs ty fr)) ∧
      Nf fr cs.size ∧ es.length ≤ cap ∧ cap ≤ maxLen ∧ cap * sz ≤ cs.size ∧
      ∀ (j : Nat) e (c : Nat) y, es[j]? = some e → e[c]? = some y → ∃ u, cs[j * sz + c]? = some u ∧ M base σ w y u) :
    OpS P o t r X 1 := by
  subst hx
  intro base σ w ρ _ _ ho hρ _ hf _
  obtain ⟨cs, ty, fr, m, cap, hrun, hnf, hc1, hc2, hc3, hm⟩ := hr base σ w ρ hρ
  have hfr : σ r = none := hf r (Nat.le_refl _) (by omega)
  have hk0 : Keeps none base σ w σ (w.drewN m) := ⟨fun _ h => ⟨h, rfl⟩, fun _ _ _ _ _ h => ⟨h, rfl⟩⟩
  have hk : Keeps none base σ (w.drewN m) (addSig σ r w.heap.size 0 sz) ((w.drewN m).alloc (.cells cs ty fr)) := by
    refine ⟨fun k hk => ⟨Old.alloc (w := w.drewN m) hk _ _ _ _, Below.heap_alloc (w.drewN m) _ k hk.1⟩, fun L b o' s _ h => ⟨?_, Below.heap_alloc (w.drewN m) _ b (ho L b o' s h)⟩⟩
    rw [addSig_ne]
    · exact h
    · rintro rfl
      rw [hfr] at h
      cases h
  have hsz' : ((w.drewN m).alloc (.cells cs ty fr)).heap.size = w.heap.size + 1 := by simp [World.drewN]
  refine .inl ⟨_, _, hrun, addSig σ r w.heap.size 0 sz, (below_drew' (Below.refl _ _) m).alloc (Nat.le_refl _) _, fun L hL => addSig_ne (by omega), ?_, fun L L' b o s o' s' h1 h2 h3 h4 _ _ => by omega, ?_⟩
  · intro L b o' s h1 h2 h
    obtain rfl : L = r := by omega
    rw [addSig_self] at h
    obtain ⟨rfl, _⟩ : w.heap.size = b ∧ _ := by simpa using h
    omega
  have hat : At base (addSig σ r w.heap.size 0 sz) ((w.drewN m).alloc (.cells cs ty fr)) r sz (0 * sz) (cap * sz) ⟨w.heap.size, 0, none⟩ :=
    .inr ⟨w.heap.size, 0, cs, ty, fr, addSig_self _ _ _ _ _, by simp, heap_alloc_new (w.drewN m) _, hnf, by simpa using hc3⟩
  refine .sl r sz 0 es _ cap (fun j c => (cs[j * sz + c]?).getD undef) hc1 hc2 hsz (.inr (.inr ⟨_, rfl, hat⟩)) ?_ ?_
  · intro ad hA j e c y hj hc
    obtain rfl := Option.some.inj hA
    obtain ⟨u, hu, _⟩ := hm j e c y hj hc
    have hcell : ∀ q, ((w.drewN m).alloc (.cells cs ty fr)).cell? ⟨w.heap.size, q, none⟩ = cs[q]? := fun q => cell_at (b := w.heap.size) (heap_alloc_new (w.drewN m) _) q
    rw [add_none, hcell, Nat.zero_add]
    simp only [hu, Option.getD_some]
  · intro j e c y hj hc
    obtain ⟨u, hu, hmu⟩ := hm j e c y hj hc
    simp only [hu, Option.getD_some]
    exact (hmu.keep' hk0).keep' hk
theorem OpS.newNil {sz : Nat} (hx : X = .nil sz) (hr : ∀ base σ w (ρ : Operand → Value), (∀ y, M base σ w (opnd t y) (ρ y)) → ∃ A ob m, (execOp ρ o).run P w = .ok (.value (.slice A 0 0)) ((w.drewN m).alloc ob)) : OpS P o t r X 0 := by
  subst hx
  intro base σ w ρ _ _ _ hρ _ _ _
  obtain ⟨A, ob, m, h1⟩ := hr base σ w ρ hρ
  exact .inl ⟨_, _, h1, σ, (below_drew' (Below.refl _ _) m).alloc (Nat.le_refl _) _, fun _ _ => rfl, fun L _ _ _ h1 h2 => by omega, fun _ _ _ _ _ _ _ h1 h2 => by omega, .nil _ _⟩
end
end Go.Proofs.YtliiphpbfambcaaGreatDoor.K

/- Loads, fields, elements, parts of slices: what the machine makes of abstract values. Nothing here depends on the program. -/
namespace Go.Proofs.YtliiphpbfambcaaGreatDoor.K
open Go Go.RowKit

theorem add_add' (a : Addr) (i j : Nat) : (a.add i).add j = a.add (i + j) := by
  unfold Addr.add
  by_cases hi : i = 0
  · subst hi; simp
  · by_cases hj : j = 0
    · subst hj; simp [hi]
    · have : ¬ i + j = 0 := by omega
      simp [hi, hj, Nat.add_assoc]

section
variable {P : Program} {base : Base} {σ : Sig} {w : World}
theorem run_isAgg_ {ty : TypeId} {i : TInfo} (ht : TOk P ty i) (w : World) : (isAgg ty).run P w = .ok i.kind.isAgg w := by
  obtain ⟨d, hd, hf, hn⟩ := ht.und
  unfold isAgg
  simp only [Sem.run_bind, run_underlying hd, Result.andThen_ok]
  cases hk : i.kind with
  | struct fs =>
    rw [hk] at hf
    cases d <;> first | exact hf.elim | rfl
  | _ =>
    have := hn (by rw [hk]; rfl)
    split at this
    · cases this
    · cases this
    · simp_all [Kind.isAgg]
theorem run_sizeOf_ {ty : TypeId} {i : TInfo} (ht : TOk P ty i) (w : World) : (sizeOf ty).run P w = .ok i.size w := by
  obtain ⟨x, hx, hs, _⟩ := ht.inf
  simp [sizeOf, typeInfo, hx, hs]
theorem run_zeroValue_ {ty : TypeId} {i : TInfo} (ht : TOk P ty i) (hz : i.zero ≠ []) (w : World) : ∃ z, (zeroValue ty).run P w = .ok z w ∧ zerosOk i.zero z.cells.toList = true := by
  obtain ⟨x, hx, _, _, hzz⟩ := ht.inf
  obtain ⟨z, h1, h2⟩ := hzz hz
  exact ⟨z, by simp [zeroValue, typeInfo, hx, h1], h2⟩
theorem und_slice {t e : TypeId} {i : TInfo} (ht : TOk P t i) (hk : i.kind = .slice e) : P.underlying t = some (.slice e) := by
  obtain ⟨d, hd, hf, _⟩ := ht.und
  rw [hk] at hf
  rw [hd, show d = .slice e from hf]
theorem und_str {t : TypeId} {i : TInfo} (ht : TOk P t i) (hk : i.kind = .str) : P.underlying t = some .string := by
  obtain ⟨d, hd, hf, _⟩ := ht.und
  rw [hk] at hf
  rw [hd, show d = .string from hf]
theorem und_int {t : TypeId} {i : TInfo} {k : IntKind} (ht : TOk P t i) (hk : i.kind = .int k) : P.underlying t = some (.int k) := by
  obtain ⟨d, hd, hf, _⟩ := ht.und
  rw [hk] at hf
  rw [hd, show d = .int k from hf]
theorem und_bool {t : TypeId} {i : TInfo} (ht : TOk P t i) (hk : i.kind = .bool) : P.underlying t = some .bool := by
  obtain ⟨d, hd, hf, _⟩ := ht.und
  rw [hk] at hf
  rw [hd, show d = .bool from hf]

def partV (i : TInfo) (e : List V) (o : Nat) : Option V :=
  if i.kind.isAgg then (if o + i.size ≤ e.length then some (.agg ((e.drop o).take i.size)) else none) else e[o]?
def loadV (i : TInfo) : V → Option V
  | .ptr _ _ o e => partV i e o
  | _ => none

theorem load_M {ty : TypeId} {i : TInfo} (ht : TOk P ty i) {p x : V} {v : Value} (hp : M base σ w p v) (hl : loadV i p = some x) : ∃ ad u, v = .pointer (some ad) ∧ (loadVar ty ad).run P w = .ok u w ∧ M base σ w x u := by
  cases hp with
  | ptr L k o e ad u h4 h5 h6 =>
    simp only [loadV, partV] at hl
    by_cases ha : i.kind.isAgg = true
    · rw [if_pos ha] at hl
      split at hl
      · rename_i hle
        obtain rfl := Option.some.inj hl
        have hcs : ∀ (j : Nat) v, ((List.range i.size).map fun c => u (o + c))[j]? = some v → w.cell? ((ad.add o).add j) = some v := by
          intro j v hv
          rw [List.getElem?_map] at hv
          obtain ⟨c, hc, rfl⟩ := Option.map_eq_some_iff.1 hv
          have hjc : j < i.size := by
            have := (List.getElem?_eq_some_iff.1 hc).1
            simpa using this
          rw [List.getElem?_range hjc] at hc
          obtain rfl := Option.some.inj hc
          rw [add_add']
          have : o + j < e.length := by omega
          exact h5 (o + j) _ (List.getElem?_eq_getElem this)
        have hrun := run_loadCells_list (P := P) w (ad.add o) ((List.range i.size).map fun c => u (o + c)) hcs
        refine ⟨ad.add o, .agg ((List.range i.size).map fun c => u (o + c)).toArray, rfl, ?_, ?_⟩
        · unfold loadVar
          simp only [Sem.run_bind, run_isAgg_ ht, run_sizeOf_ ht, Result.andThen_ok, ha, if_true]
          rw [List.length_map, List.length_range] at hrun
          rw [hrun]
          rfl
        · refine .agg _ _ (by simp; omega) fun c y v hy hv => ?_
          rw [List.getElem?_map] at hv
          obtain ⟨c', hc', rfl⟩ := Option.map_eq_some_iff.1 hv
          have hjc : c < i.size := by
            have := (List.getElem?_eq_some_iff.1 hc').1
            simpa using this
          rw [List.getElem?_range hjc] at hc'
          obtain rfl := Option.some.inj hc'
          rw [List.getElem?_take, if_pos hjc, List.getElem?_drop] at hy
          exact h6 (o + c) y hy
      · cases hl
    · rw [if_neg ha] at hl
      refine ⟨ad.add o, u o, rfl, ?_, h6 o x hl⟩
      unfold loadVar
      have ha' : i.kind.isAgg = false := by simpa using ha
      simp only [Sem.run_bind, run_isAgg_ ht, Result.andThen_ok, ha', Bool.false_eq_true, if_false]
      have := h5 o x hl
      simp [load, Sem.run, this]
  | _ => simp [loadV] at hl

theorem part_M {ty : TypeId} {i : TInfo} (ht : TOk P ty i) {cs : List V} {vs : List Value} (hp : Ms base σ w cs vs) {o : Nat} {x : V} (hl : partV i cs o = some x) : ∃ u, (part ty vs.toArray o).run P w = .ok u w ∧ M base σ w x u := by
  unfold partV at hl
  unfold part
  by_cases ha : i.kind.isAgg = true
  · rw [if_pos ha] at hl
    split at hl
    · rename_i hle
      obtain rfl := Option.some.inj hl
      refine ⟨.agg (vs.toArray.extract o (o + i.size)), by simp only [Sem.run_bind, run_isAgg_ ht, run_sizeOf_ ht, Result.andThen_ok, ha, if_true]; rfl, ?_⟩
      have hl2 := hp.1
      rw [show vs.toArray.extract o (o + i.size) = ((vs.drop o).take i.size).toArray by simp]
      refine .agg _ _ (by simp; omega) fun c y v hy hv => ?_
      rw [List.getElem?_take] at hy hv
      split at hy
      · rw [if_pos (by assumption)] at hv
        rw [List.getElem?_drop] at hy hv
        exact hp.2 _ _ _ hy hv
      · cases hy
    · cases hl
  · rw [if_neg ha] at hl
    have ha' : i.kind.isAgg = false := by simpa using ha
    have hlt : o < vs.length := by have := (List.getElem?_eq_some_iff.1 hl).1; have := hp.1; omega
    have hv : vs[o]? = some vs[o] := List.getElem?_eq_getElem hlt
    refine ⟨vs[o], ?_, hp.2 o x _ hl hv⟩
    simp only [Sem.run_bind, run_isAgg_ ht, Result.andThen_ok, ha', Bool.false_eq_true, if_false]
    simp [hlt]
end
end Go.Proofs.YtliiphpbfambcaaGreatDoor.K

/- The operations that write nothing that is there, as one function on abstract frames. Nothing here depends on the program. -/
namespace Go.Proofs.YtliiphpbfambcaaGreatDoor.K
open Go Go.RowKit

def esz (ti : Tab) (t : TypeId) : Option Nat :=
  match ti t with
  | some ⟨.slice e, _, _, _⟩ => (ti e).map (·.size)
  | _ => none
def retype (ti : Tab) (t : TypeId) : V → V
  | .nil _ => .nil ((esz ti t).getD 0)
  | v => v

def intBin (op : BinOp) (k : IntKind) (x y : Int) : Option V :=
  match op with
  | .add => some (.int k (k.wrap (x + y)))
  | .sub => some (.int k (k.wrap (x - y)))
  | .mul => some (.int k (k.wrap (x * y)))
  | .quo => if y = 0 then none else some (.int k (k.wrap (x.tdiv y)))
  | .rem => if y = 0 then none else some (.int k (x.tmod y))
  | .and => some (.int k (k.wrap (BitVec.ofInt k.bits x &&& BitVec.ofInt k.bits y).toNat))
  | .or => some (.int k (k.wrap (BitVec.ofInt k.bits x ||| BitVec.ofInt k.bits y).toNat))
  | .xor => some (.int k (k.wrap (BitVec.ofInt k.bits x ^^^ BitVec.ofInt k.bits y).toNat))
  | .eql => some (.bool (decide (x = y)))
  | .neq => some (.bool (!decide (x = y)))
  | .lss => some (.bool (decide (x < y)))
  | .leq => some (.bool (decide (x ≤ y)))
  | .gtr => some (.bool (decide (x > y)))
  | .geq => some (.bool (decide (x ≥ y)))
  | _ => none
def strBin (op : BinOp) (x y : List UInt8) : Option V :=
  match op with
  | .add => if x.length + y.length ≤ 9223372036854775807 then some (.str (x ++ y)) else none
  | .eql => some (.bool (decide (x = y)))
  | .neq => some (.bool (!decide (x = y)))
  | .lss => some (.bool (Op.bytesLess x y))
  | .leq => some (.bool (Op.bytesLess x y || decide (x = y)))
  | .gtr => some (.bool (!(Op.bytesLess x y || decide (x = y))))
  | .geq => some (.bool (!Op.bytesLess x y))
  | _ => none
def binV (ti : Tab) (op : BinOp) (T : TypeId) (x y : V) : Option V :=
  match op, x, y with
  | .shl, .int k a, .int _ b => if b < 0 then none else some (.int k (k.wrap (a * 2 ^ min b.toNat k.bits)))
  | .shr, .int k a, .int _ b => if b < 0 then none else some (.int k (a.fdiv (2 ^ min b.toNat k.bits)))
  | op, .int k a, .int k' b => if k = k' then intBin op k a b else none
  | op, .str a, .str b => strBin op a b
  | .eql, .bool a, .bool b => (ti T).bind fun i => match i.kind with | .bool => some (.bool (a == b)) | _ => none
  | .neq, .bool a, .bool b => (ti T).bind fun i => match i.kind with | .bool => some (.bool (!(a == b))) | _ => none
  | _, _, _ => none
def unV (op : UnOp) (x : V) : Option V :=
  match op, x with
  | .not, .bool b => some (.bool !b)
  | .neg, .int k n => some (.int k (k.wrap (0 - n)))
  | _, _ => none

section
variable {P : Program} {ti : Tab} {base : Base} {σ : Sig} {w : World}
theorem intBin_run {op : BinOp} {k : IntKind} {x y : Int} {r : V} (hn : op ≠ .shl) (hn' : op ≠ .shr) (h : intBin op k x y = some r) (t : TypeId) (w : World) : ∃ u, (binOp op t (.int k x) (.int k y)).run P w = .ok u w ∧ M base σ w r u := by
  cases op <;> simp only [intBin, Option.some.injEq, reduceCtorEq] at h <;> first
    | (exact absurd rfl hn)
    | (exact absurd rfl hn')
    | (subst h; refine ⟨_, ?_, .int _ _⟩; simp [binOp, Op.intArith, Op.intBits]; done)
    | (subst h; refine ⟨_, ?_, .bool _⟩; simp [binOp, Op.intCmp, Bool.beq_eq_decide_eq, bne]; done)
    | (split at h
       · cases h
       · rename_i hy
         obtain rfl := Option.some.inj h
         refine ⟨_, ?_, .int _ _⟩
         simp [binOp, Op.intDiv, hy])
theorem strBin_run {op : BinOp} {x y : List UInt8} {r : V} (h : strBin op x y = some r) (t : TypeId) (w : World) : ∃ u, (binOp op t (.string ⟨x.toArray⟩) (.string ⟨y.toArray⟩)).run P w = .ok u w ∧ M base σ w r u := by
  have hx : (⟨x.toArray⟩ : ByteArray).size = x.length := by simp [ByteArray.size]
  have hy : (⟨y.toArray⟩ : ByteArray).size = y.length := by simp [ByteArray.size]
  have hmax : IntKind.i64.max = 9223372036854775807 := by rfl
  cases op <;> simp only [strBin, Option.some.injEq, reduceCtorEq] at h <;> first
    | (subst h; refine ⟨_, ?_, .bool _⟩; simp [binOp, Op.stringOp, Bool.beq_eq_decide_eq]; done)
    | (split at h
       · rename_i hle
         obtain rfl := Option.some.inj h
         refine ⟨_, ?_, .str _⟩
         have hadd : (⟨x.toArray⟩ : ByteArray) ++ ⟨y.toArray⟩ = ⟨(x ++ y).toArray⟩ := by
           apply ByteArray.ext
           simp
         simp only [binOp, Op.stringOp, hx, hy, hmax, hadd]
         rw [if_neg (by omega)]
         rfl
       · cases h)
theorem binV_run {op : BinOp} {T : TypeId} {x y : V} {r : V} (hti : TabOk P ti) (h : binV ti op T x y = some r) {u v : Value} (hx : M base σ w x u) (hy : M base σ w y v) :
    ∃ z, (binOp op T u v).run P w = .ok z w ∧ M base σ w r z ∧ (∀ cs, u ≠ .agg cs) ∧ u ≠ .nilIface := by
  unfold binV at h
  split at h
  · cases hx; cases hy
    split at h
    · cases h
    · rename_i hb
      obtain rfl := Option.some.inj h
      refine ⟨_, ?_, .int _ _, by simp, by simp⟩
      simp [binOp, Op.shift, hb]
  · cases hx; cases hy
    split at h
    · cases h
    · rename_i hb
      obtain rfl := Option.some.inj h
      refine ⟨_, ?_, .int _ _, by simp, by simp⟩
      simp [binOp, Op.shift, hb]
  · rename_i hn hn'
    cases hx; cases hy
    split at h
    · rename_i hk
      subst hk
      obtain ⟨z, h1, h2⟩ := intBin_run (base := base) (σ := σ) (P := P) (by simpa using hn) (by simpa using hn') h T w
      exact ⟨z, h1, h2, by simp, by simp⟩
    · cases h
  · cases hx; cases hy
    obtain ⟨z, h1, h2⟩ := strBin_run (base := base) (σ := σ) (P := P) h T w
    exact ⟨z, h1, h2, by simp, by simp⟩
  · cases hx; cases hy
    obtain ⟨i, hi, h⟩ := Option.bind_eq_some_iff.1 h
    split at h
    · rename_i hk
      obtain rfl := Option.some.inj h
      have hu := und_bool (hti _ _ hi) hk
      refine ⟨_, ?_, .bool _, by simp, by simp⟩
      rw [run_eql_bool _ _ _ _ hu]
    · cases h
  · cases hx; cases hy
    obtain ⟨i, hi, h⟩ := Option.bind_eq_some_iff.1 h
    split at h
    · rename_i hk
      obtain rfl := Option.some.inj h
      have hu := und_bool (hti _ _ hi) hk
      refine ⟨_, ?_, .bool _, by simp, by simp⟩
      rw [run_neq_bool _ _ _ _ hu]
    · cases h
  · cases h
end
end Go.Proofs.YtliiphpbfambcaaGreatDoor.K

/- One function for the operations that write nothing that is there, and that it is what the machine does. Nothing here depends on the program. -/
namespace Go.Proofs.YtliiphpbfambcaaGreatDoor.K
open Go Go.RowKit

def setAt (cs : List V) (off : Nat) : List V → List V
  | [] => cs
  | x :: xs => setAt (cs.set off x) (off + 1) xs
theorem setAt_len (seg : List V) : ∀ (cs : List V) (off : Nat), (setAt cs off seg).length = cs.length := by
  induction seg with
  | nil => intro cs off; rfl
  | cons x xs ih => intro cs off; simp only [setAt]; rw [ih, List.length_set]
def fillV (ti : Tab) (fs : List (Nat × TypeId)) : List V → List (Nat × V) → Option (List V)
  | cs, [] => some cs
  | cs, (i, x) :: rest =>
    match fs[i]? with
    | some (off, ty) =>
      match ti ty with
      | some inf => if x.known && (cellsV x).length == inf.size && decide (off + (cellsV x).length ≤ cs.length) then fillV ti fs (setAt cs off (cellsV x)) rest else none
      | none => none
    | none => none
def fillE (sz : Nat) : List (List V) → List (Nat × V) → Option (List (List V))
  | es, [] => some es
  | es, (i, x) :: rest => if x.known && (cellsV x).length == sz && decide (i < es.length) then fillE sz (es.set i (cellsV x)) rest else none
def bytesV : List (List V) → Option (List UInt8)
  | [] => some []
  | [.int .u8 n] :: es => (bytesV es).map (UInt8.ofNat n.toNat :: ·)
  | _ => none
def convV (ti : Tab) (src dst : TypeId) (x : V) : Option V :=
  match ti src, ti dst, x with
  | some _, some ⟨.int k, _, _, _⟩, .int _ n => some (.int k (k.wrap n))
  | some ⟨.str, _, _, _⟩, some ⟨.str, _, _, _⟩, .str s => some (.str s)
  | some ⟨.slice e, _, _, _⟩, some ⟨.str, _, _, _⟩, .sl _ _ _ es => (ti e).bind fun i => match i.kind with | .int .u8 => (bytesV es).map .str | _ => none
  | some ⟨.slice e, _, _, _⟩, some ⟨.str, _, _, _⟩, .nil _ => (ti e).bind fun i => match i.kind with | .int .u8 => some (.str []) | _ => none
  | _, _, _ => none
def fieldOf (ti : Tab) (T : TypeId) (f : Nat) : Option (Nat × TypeId) :=
  match ti T with
  | some ⟨.struct fs, _, _, _⟩ => fs[f]?
  | _ => none
def idxV (ti : Tab) (T : TypeId) (x ix : V) : Option V :=
  match x, ix with
  | .sl L _ off es, .int _ i => if 0 ≤ i then (match es[i.toNat]? with | some e => if esz ti T = some e.length then some (.ptr L (off + i.toNat) 0 e) else none | none => none) else none
  | _, _ => none
def byteV (ti : Tab) (T : TypeId) (x ix : V) : Option V :=
  match ti T, x, ix with
  | some ⟨.str, _, _, _⟩, .str s, .int _ i => if 0 ≤ i then (s[i.toNat]?).map fun b => .int .u8 (b.toNat : Int) else none
  | _, _, _ => none
def boundV (n : Nat) : Option V → Option Nat
  | none => some n
  | some (.int _ i) => if 0 ≤ i ∧ i ≤ (n : Int) then some i.toNat else none
  | some _ => none
def lowV : Option V → Nat → Option Nat
  | none, _ => some 0
  | some x, n => boundV n (some x)
def sliceV (ti : Tab) (T : TypeId) (x : V) (lo hi : Option V) : Option V :=
  match ti T, x with
  | some ⟨.str, _, _, _⟩, .str s => (boundV s.length hi).bind fun h => (lowV lo h).bind fun l => some (.str ((s.take h).drop l))
  | some ⟨.slice e, _, _, _⟩, .sl L sz off es => (boundV es.length hi).bind fun h => (lowV lo h).bind fun l => if (ti e).map (·.size) = some sz then some (.sl L sz (off + l) ((es.take h).drop l)) else none
  | some ⟨.slice e, _, _, _⟩, .nil sz => (boundV 0 hi).bind fun h => (lowV lo h).bind fun _ => if (ti e).isSome then some (.nil sz) else none
  | _, _ => none
def lenV : V → Option V
  | .str s => some (.int .i64 (s.length : Int))
  | .sl _ _ _ es => some (.int .i64 (es.length : Int))
  | .nil _ => some (.int .i64 0)
  | _ => none
def lenFits (ti : Tab) (T : TypeId) (x : V) : Bool :=
  match ti T, x with
  | some ⟨.str, _, _, _⟩, .str _ => true
  | some ⟨.slice _, _, _, _⟩, .sl .. => true
  | some ⟨.slice _, _, _, _⟩, .nil _ => true
  | _, _ => false
def minV (mx : Bool) : V → V → Option V
  | .int k x, .int _ y => some (.int k (if mx then (if y > x then y else x) else (if y < x then y else x)))
  | .str x, .str y => some (.str (if mx then (if Op.bytesLess x y then y else x) else (if Op.bytesLess x y || decide (x = y) then x else y)))
  | _, _ => none
def zeroRow (ti : Tab) (e : TypeId) (m : Nat) : Option (List (List V)) := (ti e).bind fun i => if i.zero.length = i.size ∧ 0 < i.size then some (List.replicate m i.zero) else none

def bltV (ti : Tab) (t : List V) (c : Call) : Option V :=
  match c.callee with
  | .builtin b =>
    match b, c.args.toList, c.argTypes.toList with
    | .len, [x], [T] => if lenFits ti T (opnd t x) then lenV (opnd t x) else none
    | .min, [x, y], _ => minV false (opnd t x) (opnd t y)
    | .max, [x, y], _ => minV true (opnd t x) (opnd t y)
    | _, _, _ => none
  | _ => none

def ev1 (ti : Tab) (t : List V) (n : Nat) (ty : TypeId) : Op → Option (V × Nat)
  | .move x => some (retype ti ty (opnd t x), n)
  | .assign x => some (retype ti ty (opnd t x), n)
  | .pick c a b => match opnd t c with | .bool true => some (opnd t a, n) | .bool false => some (opnd t b, n) | _ => none
  | .alloc T => match ti T with | some i => if i.zero.length = i.size ∧ i.zero ≠ [] then some (.ptr n 0 0 i.zero, n + 1) else none | none => none
  | .box _ x => if (opnd t x).known then some (.ptr n 0 0 (cellsV (opnd t x)), n + 1) else none
  | .build T parts => match ti T with | some ⟨.struct fs, _, _, z⟩ => if z ≠ [] ∧ (fs.all fun p => (ti p.2).isSome) = true then (fillV ti fs z (parts.toList.map fun p => (p.1, opnd t p.2))).map fun cs => (.agg cs, n) else none | _ => none
  | .buildSlice T len parts => match ti T with
      | some ⟨.slice e, _, _, _⟩ => match ti e with
        | some i => if len = 0 then (if parts.size = 0 ∧ 0 < i.size then some (.nil i.size, n) else none) else if len * i.size ≤ 16777216 ∧ 0 < i.size ∧ i.zero.length = i.size then (fillE i.size (List.replicate len i.zero) (parts.toList.map fun p => (p.1, opnd t p.2))).map fun es => (.sl n i.size 0 es, n + 1) else none
        | none => none
      | _ => none
  | .load T a => match ti T with | some i => (loadV i (opnd t a)).map fun x => (x, n) | none => none
  | .nilCheck x => match opnd t x with | .ptr L i o e => some (.ptr L i o e, n) | .fn f cs => some (.fn f cs, n) | _ => none
  | .binOp op T x y _ => (binV ti op T (opnd t x) (opnd t y)).map fun z => (z, n)
  | .unOp op _ x => (unV op (opnd t x)).map fun z => (z, n)
  | .convert s d x => (convV ti s d (opnd t x)).map fun z => (z, n)
  | .fieldAddr T x f => match opnd t x, fieldOf ti T f with
      | .ptr L i o e, some (off, fty) => match ti fty with | some inf => if inf.size = 0 then none else some (.ptr L i (o + off) e, n) | none => none
      | _, _ => none
  | .field T x f => match opnd t x, fieldOf ti T f with
      | .agg cs, some (off, fty) => match ti fty with | some inf => (partV inf cs off).map fun z => (z, n) | none => none
      | _, _ => none
  | .indexAddr T x ix => (idxV ti T (opnd t x) (opnd t ix)).map fun z => (z, n)
  | .index T x ix => (byteV ti T (opnd t x) (opnd t ix)).map fun z => (z, n)
  | .slice T x lo hi none => (sliceV ti T (opnd t x) (lo.map (opnd t)) (hi.map (opnd t))).map fun z => (z, n)
  | .extract x i => match opnd t x with | .tup vs => (vs[i]?).map fun z => (z, n) | _ => none
  | .makeFunc (.func f) first caps => if first.size = 0 then some (.fn f (caps.toList.map (opnd t)), n) else none
  | .call c => (bltV ti t c).map fun z => (z, n)
  | _ => none
end Go.Proofs.YtliiphpbfambcaaGreatDoor.K

/- ev1 is what the machine does. Nothing here depends on the program. -/
namespace Go.Proofs.YtliiphpbfambcaaGreatDoor.K
open Go Go.RowKit

section
variable {P : Program} {ti : Tab} {t h : List V} {n : Nat} {o : Oper}
theorem retype_M {base : Base} {σ : Sig} {w : World} {x : V} {v : Value} (ty : TypeId) (hm : M base σ w x v) : M base σ w (retype ti ty x) v := by
  unfold retype
  split
  · cases hm; exact .nil _ _
  · exact hm

theorem ok_move {x : Operand} (ho : o.op = .move x ∨ o.op = .assign x) : OpS P o t n (retype ti o.type (opnd t x)) 0 := by
  refine OpS.val fun base σ w ρ hρ => ⟨ρ x, ?_, retype_M _ (hρ x)⟩
  rcases ho with ho | ho <;> simp [execOp, ho]

theorem ok_pick {c a b : Operand} {z : V} (ho : o.op = .pick c a b) (hz : (opnd t c = .bool true ∧ z = opnd t a) ∨ (opnd t c = .bool false ∧ z = opnd t b)) : OpS P o t n z 0 := by
  refine OpS.val fun base σ w ρ hρ => ?_
  have hc := hρ c
  rcases hz with ⟨hz, rfl⟩ | ⟨hz, rfl⟩
  · rw [hz] at hc
    generalize hcv : ρ c = cv at hc
    cases hc
    exact ⟨ρ a, by simp [execOp, ho, hcv, asBool], hρ a⟩
  · rw [hz] at hc
    generalize hcv : ρ c = cv at hc
    cases hc
    exact ⟨ρ b, by simp [execOp, ho, hcv, asBool], hρ b⟩

theorem ok_alloc {T : TypeId} {i : TInfo} (ht : TOk P T i) (ho : o.op = .alloc T) (hz : i.zero ≠ []) : OpS P o t n (.ptr n 0 0 i.zero) 1 := by
  refine OpS.newVar rfl fun base σ w ρ hρ => ?_
  obtain ⟨z, h1, h2⟩ := run_zeroValue_ ht hz w
  refine ⟨z.cells, T, ?_, zerosOk_Ms h2⟩
  simp [execOp, ho, Instr.alloc, h1, newVar, newRow]

theorem ok_box {T : TypeId} {x : Operand} (ho : o.op = .box T x) (hk : (opnd t x).known = true) : OpS P o t n (.ptr n 0 0 (cellsV (opnd t x))) 1 := by
  refine OpS.newVar rfl fun base σ w ρ hρ => ⟨(ρ x).cells, T, ?_, cells_M hk (hρ x)⟩
  simp [execOp, ho, Instr.box, newVar, newRow]

theorem ok_load {T : TypeId} {i : TInfo} {x : Operand} {z : V} (ht : TOk P T i) (ho : o.op = .load T x) (hz : loadV i (opnd t x) = some z) : OpS P o t n z 0 := by
  refine OpS.val fun base σ w ρ hρ => ?_
  obtain ⟨ad, u, h1, h2, h3⟩ := load_M ht (hρ x) hz
  exact ⟨u, by simp [execOp, ho, h1, Instr.loadAt, Instr.sureAddr, h2], h3⟩

theorem ok_nilCheck {x : Operand} {z : V} (ho : o.op = .nilCheck x) (hz : opnd t x = z) (hk : (∃ L i o' e, z = .ptr L i o' e) ∨ (∃ f cs, z = .fn f cs)) : OpS P o t n z 0 := by
  refine OpS.val fun base σ w ρ hρ => ?_
  have hx := hρ x
  rw [hz] at hx
  refine ⟨ρ x, ?_, hx⟩
  rcases hk with ⟨L, i, o', e, rfl⟩ | ⟨f, cs, rfl⟩
  · generalize hv : ρ x = v at hx
    cases hx
    simp [execOp, ho, hv]
  · generalize hv : ρ x = v at hx
    cases hx
    simp [execOp, ho, hv]

theorem ok_bin {op : BinOp} {T T' : TypeId} {x y : Operand} {z : V} (hti : TabOk P ti) (ho : o.op = .binOp op T x y T') (hz : binV ti op T (opnd t x) (opnd t y) = some z) : OpS P o t n z 0 := by
  refine OpS.val fun base σ w ρ hρ => ?_
  obtain ⟨v, h1, h2, h3, h4⟩ := binV_run hti hz (hρ x) (hρ y)
  refine ⟨v, ?_, h2⟩
  have hg : (eqGuard op T x y (ρ x) (ρ y)).run P w = .ok () w := by
    unfold eqGuard
    generalize ρ x = u at h3 h4
    cases u <;> first | (exact absurd rfl (h3 _)) | (exact absurd rfl h4) | (split <;> rfl)
  simp [execOp, ho, hg, h1]

theorem ok_un {op : UnOp} {T : TypeId} {x : Operand} {z : V} (ho : o.op = .unOp op T x) (hz : unV op (opnd t x) = some z) : OpS P o t n z 0 := by
  refine OpS.val fun base σ w ρ hρ => ?_
  have hx := hρ x
  generalize hv : ρ x = v at hx
  generalize opnd t x = X at hz hx
  unfold unV at hz
  split at hz
  · cases hx
    obtain rfl := Option.some.inj hz
    refine ⟨_, ?_, .bool _⟩
    simp [execOp, ho, hv, Op.unary]
  · cases hx
    obtain rfl := Option.some.inj hz
    refine ⟨_, ?_, .int _ _⟩
    simp [execOp, ho, hv, Op.unary, Op.intArith]
  · cases hz

theorem ok_extract {x : Operand} {i : Nat} {vs : List V} {z : V} (ho : o.op = .extract x i) (hx : opnd t x = .tup vs) (hz : vs[i]? = some z) : OpS P o t n z 0 := by
  refine OpS.val fun base σ w ρ hρ => ?_
  have hm := hρ x
  rw [hx] at hm
  generalize hv : ρ x = v at hm
  cases hm with
  | tup cs ws h1 h6 =>
    have hlt : i < ws.length := by have := (List.getElem?_eq_some_iff.1 hz).1; omega
    refine ⟨ws[i], ?_, h6 i z _ hz (List.getElem?_eq_getElem hlt)⟩
    simp [execOp, ho, hv, Instr.extract, hlt]

theorem ok_len {x : Operand} {T : TypeId} {z : V} (hti : TabOk P ti) (ho : o.op = .call ⟨.builtin .len, #[x], #[T]⟩) (hf : lenFits ti T (opnd t x) = true) (hz : lenV (opnd t x) = some z) : OpS P o t n z 0 := by
  refine OpS.val fun base σ w ρ hρ => ?_
  have hx := hρ x
  generalize hv : ρ x = v at hx
  generalize opnd t x = X at hz hx hf
  unfold lenFits at hf
  split at hf
  · rename_i s heq
    have hu := und_str (hti _ _ heq) rfl
    cases hx
    obtain rfl := Option.some.inj hz
    refine ⟨_, ?_, .int _ _⟩
    have hsz : (⟨s.toArray⟩ : ByteArray).size = s.length := by simp [ByteArray.size]
    simp [execOp, ho, resolve, invoke, builtin, hv, Builtin.len_, run_underlying hu, goInt, hsz]
  · rename_i e heq
    have hu := und_slice (hti _ _ heq) rfl
    cases hx
    obtain rfl := Option.some.inj hz
    refine ⟨_, ?_, .int _ _⟩
    simp [execOp, ho, resolve, invoke, builtin, hv, Builtin.len_, run_underlying hu, goInt]
  · rename_i e heq
    have hu := und_slice (hti _ _ heq) rfl
    cases hx
    obtain rfl := Option.some.inj hz
    refine ⟨_, ?_, .int _ _⟩
    simp [execOp, ho, resolve, invoke, builtin, hv, Builtin.len_, run_underlying hu, goInt]
  · cases hf

theorem ok_minmax {x y : Operand} {mx : Bool} {ts : Array TypeId} {z : V} (ho : o.op = .call ⟨.builtin (if mx then .max else .min), #[x, y], ts⟩) (hz : minV mx (opnd t x) (opnd t y) = some z) : OpS P o t n z 0 := by
  refine OpS.val fun base σ w ρ hρ => ?_
  have hx := hρ x
  have hy := hρ y
  generalize hu : ρ x = u at hx
  generalize hv : ρ y = v at hy
  generalize opnd t x = X at hz hx
  generalize opnd t y = Y at hz hy
  unfold minV at hz
  split at hz
  · cases hx; cases hy
    obtain rfl := Option.some.inj hz
    refine ⟨_, ?_, .int _ _⟩
    cases mx <;> simp [execOp, ho, resolve, invoke, builtin, hu, hv, Builtin.min_, Builtin.max_, Builtin.min2, Builtin.max2]
  · cases hx; cases hy
    obtain rfl := Option.some.inj hz
    refine ⟨_, ?_, .str _⟩
    cases mx <;> simp [execOp, ho, resolve, invoke, builtin, hu, hv, Builtin.min_, Builtin.max_, Builtin.min2, Builtin.max2, Op.stringOp, asBool, Bool.beq_eq_decide_eq] <;> split <;> simp_all
  · cases hz

theorem ok_makeFunc {f : FuncId} {first caps : Array Operand} (ho : o.op = .makeFunc (.func f) first caps) (hf : first.size = 0) : OpS P o t n (.fn f (caps.toList.map (opnd t))) 0 := by
  refine OpS.val fun base σ w ρ hρ => ⟨.func (.func f) #[] (caps.toList.map ρ).toArray, ?_, ?_⟩
  · have : first = #[] := Array.eq_empty_of_size_eq_zero hf
    subst this
    have hcaps : (caps.toList.map ρ).toArray = caps.map ρ := by apply Array.ext'; simp
    rw [hcaps]
    simp [execOp, ho, Instr.makeFunc]
  · refine .fn f _ _ (by simp) fun c x u hx hu => ?_
    rw [List.getElem?_map] at hx hu
    obtain ⟨q, hq, rfl⟩ := Option.map_eq_some_iff.1 hx
    rw [hq] at hu
    obtain rfl := Option.some.inj hu
    exact hρ q
end
end Go.Proofs.YtliiphpbfambcaaGreatDoor.K

/- ev1 is what the machine does: fields, elements, parts, structs and slices that are written out, bytes. Nothing here depends on the program. -/
namespace Go.Proofs.YtliiphpbfambcaaGreatDoor.K
open Go Go.RowKit

section
variable {P : Program} {ti : Tab} {t h : List V} {n : Nat} {o : Oper}

theorem fieldOf_und {T : TypeId} {f off : Nat} {fty : TypeId} (hti : TabOk P ti) (hf : fieldOf ti T f = some (off, fty)) :
    ∃ fields fd, P.underlying T = some (.struct fields) ∧ fields[f]? = some fd ∧ fd.offset = off ∧ fd.type = fty := by
  unfold fieldOf at hf
  split at hf
  · rename_i fs _ _ _ heq
    obtain ⟨d, hd, hk, -⟩ := (hti _ _ heq).und
    obtain ⟨fields, rfl⟩ : ∃ fields, d = .struct fields := by
      cases d with
      | struct fields => exact ⟨fields, rfl⟩
      | _ => exact hk.elim
    have hk' : fields.toList.map (fun f => (f.offset, f.type)) = fs := hk
    rw [← hk', List.getElem?_map] at hf
    obtain ⟨fd, hfd, he⟩ := Option.map_eq_some_iff.1 hf
    simp only [Prod.mk.injEq] at he
    exact ⟨fields, fd, hd, by simpa using hfd, he.1, he.2⟩
  · cases hf

theorem ok_fieldAddr {T : TypeId} {x : Operand} {f L i o' off : Nat} {e : List V} {fty : TypeId} {inf : TInfo} (hti : TabOk P ti) (ho : o.op = .fieldAddr T x f) (hx : opnd t x = .ptr L i o' e)
    (hf : fieldOf ti T f = some (off, fty)) (hi : ti fty = some inf) (hs : inf.size ≠ 0) : OpS P o t n (.ptr L i (o' + off) e) 0 := by
  refine OpS.val fun base σ w ρ hρ => ?_
  have hm := hρ x
  rw [hx] at hm
  generalize hv : ρ x = v at hm
  obtain ⟨fields, fd, hd, hfd, rfl, rfl⟩ := fieldOf_und hti hf
  cases hm with
  | ptr _ _ _ _ ad u h4 h5 h6 =>
    refine ⟨.pointer (some ((ad.add o').add fd.offset)), ?_, by rw [add_add']; exact .ptr L i _ e ad u h4 h5 h6⟩
    simp only [execOp, ho, hv, Instr.fieldAt, Sem.run_bind, run_underlying hd, Result.andThen_ok, hfd, Instr.sureAddr, Sem.run_pure, fieldPlace, run_sizeOf_ (hti _ _ hi), hs, if_false]

theorem ok_field {T : TypeId} {x : Operand} {f off : Nat} {cs : List V} {fty : TypeId} {inf : TInfo} {z : V} (hti : TabOk P ti) (ho : o.op = .field T x f) (hx : opnd t x = .agg cs)
    (hf : fieldOf ti T f = some (off, fty)) (hi : ti fty = some inf) (hz : partV inf cs off = some z) : OpS P o t n z 0 := by
  refine OpS.val fun base σ w ρ hρ => ?_
  have hm := hρ x
  rw [hx] at hm
  generalize hv : ρ x = v at hm
  obtain ⟨fields, fd, hd, hfd, rfl, rfl⟩ := fieldOf_und hti hf
  cases hm with
  | agg _ vs h1 h6 =>
    obtain ⟨u, hu, hmu⟩ := part_M (P := P) (base := base) (σ := σ) (w := w) (hti _ _ hi) ⟨h1, h6⟩ hz
    refine ⟨u, ?_, hmu⟩
    simp only [execOp, ho, hv, Instr.field, Sem.run_bind, run_underlying hd, Result.andThen_ok, hfd, asAgg, Sem.run_pure, hu]

theorem esz_spec {T : TypeId} {m : Nat} (hti : TabOk P ti) (he : esz ti T = some m) : ∃ e i, P.underlying T = some (.slice e) ∧ ti e = some i ∧ i.size = m := by
  unfold esz at he
  split at he
  · rename_i e _ _ _ heq
    obtain ⟨i, hi, rfl⟩ := Option.map_eq_some_iff.1 he
    exact ⟨e, i, und_slice (hti _ _ heq) rfl, hi, rfl⟩
  · cases he

theorem ok_indexAddr {T : TypeId} {x ix : Operand} {z : V} (hti : TabOk P ti) (ho : o.op = .indexAddr T x ix) (hz : idxV ti T (opnd t x) (opnd t ix) = some z) : OpS P o t n z 0 := by
  refine OpS.val fun base σ w ρ hρ => ?_
  have hm := hρ x
  have hi := hρ ix
  generalize hu : ρ x = u at hm
  generalize hv : ρ ix = v at hi
  generalize opnd t x = X at hz hm
  generalize opnd t ix = I at hz hi
  unfold idxV at hz
  split at hz
  · rename_i L sz off es k i
    split at hz
    · rename_i h0
      split at hz
      · rename_i e he
        split at hz
        · rename_i hsz
          obtain rfl := Option.some.inj hz
          obtain ⟨et, inf, hund, hie, hisz⟩ := esz_spec hti hsz
          cases hi
          cases hm with
          | sl _ _ _ _ A cap uu h1 h2 h3 h4 h5 h6 =>
            have hlt : i.toNat < es.length := (List.getElem?_eq_some_iff.1 he).1
            have hesz : e.length = sz := h3 e (List.mem_of_getElem? he)
            rcases h4 with ⟨_, rfl⟩ | hcap | ⟨ad, rfl, hat⟩
            · simp at he
            · omega
            · refine ⟨.pointer (some (ad.add (i.toNat * sz))), ?_, ?_⟩
              · simp only [execOp, ho, hu, hv, Instr.indexAt, asIntOf, Sem.run_bind, Sem.run_pure, run_underlying hund, Result.andThen_ok]
                have hcond : 0 ≤ i ∧ i < (es.length : Int) := ⟨h0, by omega⟩
                rw [if_pos hcond]
                simp only [Sem.run_bind, run_sizeOf_ (hti _ _ hie), Result.andThen_ok, hisz, hesz, Sem.run_pure]
              · have hpos : At base σ w L e.length ((off + i.toNat) * e.length) e.length (ad.add (i.toNat * sz)) := by
                  rw [hesz]
                  rcases hat with ⟨rfl, hb⟩ | ⟨b, o1, cur, et', fr, hs, rfl, hh, hnf, hroom⟩
                  · exact .inl ⟨rfl, by rw [add_blk]; exact hb⟩
                  · refine .inr ⟨b, o1, cur, et', fr, hs, by rw [add_none, Nat.add_mul, Nat.add_assoc], hh, hnf, ?_⟩
                    have : (i.toNat + 1) * sz ≤ cap * sz := Nat.mul_le_mul_right _ (by omega)
                    rw [Nat.add_mul] at this ⊢
                    omega
                have := M.ptr (base := base) (σ := σ) (w := w) L (off + i.toNat) 0 e (ad.add (i.toNat * sz)) (uu i.toNat) hpos
                  (fun c x hc => by rw [add_add']; exact h5 ad rfl i.toNat e c x he hc) (fun c x hc => h6 i.toNat e c x he hc)
                exact this
        · cases hz
      · cases hz
    · cases hz
  · cases hz

theorem ok_index {T : TypeId} {x ix : Operand} {z : V} (hti : TabOk P ti) (ho : o.op = .index T x ix) (hz : byteV ti T (opnd t x) (opnd t ix) = some z) : OpS P o t n z 0 := by
  refine OpS.val fun base σ w ρ hρ => ?_
  have hm := hρ x
  have hi := hρ ix
  generalize hu : ρ x = u at hm
  generalize hv : ρ ix = v at hi
  generalize opnd t x = X at hz hm
  generalize opnd t ix = I at hz hi
  unfold byteV at hz
  split at hz
  · rename_i s k i heq
    have hund := und_str (hti _ _ heq) rfl
    split at hz
    · rename_i h0
      obtain ⟨b, hb, rfl⟩ := Option.map_eq_some_iff.1 hz
      cases hm; cases hi
      refine ⟨_, ?_, .int _ _⟩
      have hget : (⟨s.toArray⟩ : ByteArray)[i.toNat]? = some b := by
        have hlt := (List.getElem?_eq_some_iff.1 hb).1
        have he := (List.getElem?_eq_some_iff.1 hb).2
        have hsz : i.toNat < (⟨s.toArray⟩ : ByteArray).size := by simp [ByteArray.size]; exact hlt
        rw [getElem?_pos (⟨s.toArray⟩ : ByteArray) i.toNat hsz]
        congr 1
      simp only [execOp, ho, hu, hv, Instr.index, asIntOf, Sem.run_bind, Sem.run_pure, run_underlying hund, Result.andThen_ok]
      rw [if_pos h0, hget]
      rfl
    · cases hz
  · cases hz

theorem bound_one {m : Nat} {y : V} {r : Nat} {z : Value} (hx : boundV m (some y) = some r) {base : Base} {σ : Sig} {w : World} (hz : M base σ w y z) :
    r ≤ m ∧ ∀ (m' : Nat) (code : BoundsCode), m ≤ m' → (Instr.sliceBound z m' code).run P w = .ok r w := by
  unfold boundV at hx
  split at hx
  · rename_i heq; cases heq
  · rename_i k i heq
    obtain rfl := Option.some.inj heq
    split at hx
    · rename_i hb
      obtain rfl := Option.some.inj hx
      cases hz
      refine ⟨by omega, fun m' code hm => ?_⟩
      simp only [Instr.sliceBound, asIntOf, Sem.run_bind, Sem.run_pure, Result.andThen_ok]
      rw [if_pos ⟨hb.1, by omega⟩]
      rfl
    · cases hx
  · cases hx
theorem bounds_run {len cap hh l : Nat} {lo hi : Option V} {lo' hi' : Option Value} (isS : Bool) (hlen : len ≤ cap) (h1 : boundV len hi = some hh) (h2 : lowV lo hh = some l) {base : Base} {σ : Sig} {w : World}
    (hlo : (lo = none ∧ lo' = none) ∨ ∃ y z, lo = some y ∧ lo' = some z ∧ M base σ w y z) (hhi : (hi = none ∧ hi' = none) ∨ ∃ y z, hi = some y ∧ hi' = some z ∧ M base σ w y z) :
    l ≤ hh ∧ hh ≤ len ∧ (Instr.sliceBounds isS len cap lo' hi' none).run P w = .ok (l, hh, cap) w := by
  unfold Instr.sliceBounds
  rcases hhi with ⟨rfl, rfl⟩ | ⟨y, z, rfl, rfl, hm⟩
  · obtain rfl := Option.some.inj h1
    rcases hlo with ⟨rfl, rfl⟩ | ⟨y, z, rfl, rfl, hm⟩
    · obtain rfl := Option.some.inj h2
      exact ⟨Nat.zero_le _, Nat.le_refl _, rfl⟩
    · obtain ⟨hr, hrun⟩ := bound_one (P := P) (show boundV len (some y) = some l from h2) hm
      refine ⟨hr, Nat.le_refl _, ?_⟩
      simp only [Sem.run_bind, Sem.run_pure, Result.andThen_ok, hrun _ _ (Nat.le_refl _)]
  · obtain ⟨hr, hrun⟩ := bound_one (P := P) h1 hm
    rcases hlo with ⟨rfl, rfl⟩ | ⟨y2, z2, rfl, rfl, hm2⟩
    · obtain rfl := Option.some.inj h2
      refine ⟨Nat.zero_le _, hr, ?_⟩
      simp only [Sem.run_bind, Sem.run_pure, Result.andThen_ok, hrun _ _ hlen]
    · obtain ⟨hr2, hrun2⟩ := bound_one (P := P) (show boundV hh (some y2) = some l from h2) hm2
      refine ⟨hr2, hr, ?_⟩
      simp only [Sem.run_bind, Sem.run_pure, Result.andThen_ok, hrun _ _ hlen, hrun2 _ _ (Nat.le_refl _)]

theorem ok_slice {T : TypeId} {x : Operand} {lo hi : Option Operand} {z : V} (hti : TabOk P ti) (ho : o.op = .slice T x lo hi none) (hz : sliceV ti T (opnd t x) (lo.map (opnd t)) (hi.map (opnd t)) = some z) :
    OpS P o t n z 0 := by
  refine OpS.val fun base σ w ρ hρ => ?_
  have hm := hρ x
  have hop : ∀ q : Option Operand, (q.map (opnd t) = none ∧ q.map ρ = none) ∨ ∃ y z, q.map (opnd t) = some y ∧ q.map ρ = some z ∧ M base σ w y z := by
    intro q
    cases q with
    | none => exact .inl ⟨rfl, rfl⟩
    | some q => exact .inr ⟨_, _, rfl, rfl, hρ q⟩
  have hlo := hop lo
  have hhi := hop hi
  have hrun : (execOp ρ o).run P w = ((Instr.sliceAt T (ρ x) (lo.map ρ) (hi.map ρ) none).run P w).andThen (fun v => (pure (Next.value v) : Sem Next).run P) := by
    simp only [execOp, ho, Option.map_none, Sem.run_bind]
  rw [hrun]
  generalize lo.map (opnd t) = LO at hz hlo
  generalize hi.map (opnd t) = HI at hz hhi
  generalize lo.map ρ = lo' at hlo
  generalize hi.map ρ = hi' at hhi
  generalize ρ x = u at hm
  generalize opnd t x = X at hz hm
  unfold sliceV at hz
  split at hz
  · rename_i s heq
    have hund := und_str (hti _ _ heq) rfl
    obtain ⟨hh, h1, hz⟩ := Option.bind_eq_some_iff.1 hz
    obtain ⟨l, h2, hz⟩ := Option.bind_eq_some_iff.1 hz
    obtain rfl := Option.some.inj hz
    cases hm
    have hsz : (⟨s.toArray⟩ : ByteArray).size = s.length := by simp [ByteArray.size]
    obtain ⟨hl1, hl2, hb⟩ := bounds_run (P := P) (base := base) (σ := σ) (w := w) false (Nat.le_refl s.length) h1 h2 hlo hhi
    refine ⟨_, ?_, .str _⟩
    have hex : (⟨s.toArray⟩ : ByteArray).extract l hh = ⟨((s.take hh).drop l).toArray⟩ := by
      apply ByteArray.ext
      simp [List.drop_take]
    simp only [Instr.sliceAt, Sem.run_bind, run_underlying hund, Result.andThen_ok, Instr.slice, hsz, hb, hex, Option.isSome_none, Bool.false_eq_true, if_false, Sem.run_pure]
  · rename_i e _ _ _ L sz off es heq
    have hund := und_slice (hti _ _ heq) rfl
    obtain ⟨hh, h1, hz⟩ := Option.bind_eq_some_iff.1 hz
    obtain ⟨l, h2, hz⟩ := Option.bind_eq_some_iff.1 hz
    split at hz
    · rename_i hsz
      obtain ⟨inf, hinf, hinfs⟩ := Option.map_eq_some_iff.1 hsz
      obtain rfl := Option.some.inj hz
      cases hm with
      | sl _ _ _ _ A cap uu g1 g2 g3 g4 g5 g6 =>
        obtain ⟨hl1, hl2, hb⟩ := bounds_run (P := P) (base := base) (σ := σ) (w := w) true g1 h1 h2 hlo hhi
        refine ⟨.slice (if cap = l then A else A.map (·.add (l * sz))) (hh - l) (cap - l), ?_, ?_⟩
        · simp only [Instr.sliceAt, Sem.run_bind, run_underlying hund, Result.andThen_ok, Instr.slice, hb, run_sizeOf_ (hti _ _ hinf), hinfs, Sem.run_pure]
        · have hlen : ((es.take hh).drop l).length = hh - l := by simp; omega
          have hget : ∀ (j : Nat) e, ((es.take hh).drop l)[j]? = some e → es[l + j]? = some e := by
            intro j e hj
            rw [List.getElem?_drop, List.getElem?_take] at hj
            split at hj
            · exact hj
            · cases hj
          rw [← hlen]
          refine .sl L sz (off + l) _ _ (cap - l) (fun j c => uu (l + j) c) (by omega) (by omega) ?_ ?_ ?_ ?_
          · intro e he
            exact g3 e (List.mem_of_mem_take (List.mem_of_mem_drop he))
          · rcases g4 with ⟨hL, rfl⟩ | hcap | ⟨ad, rfl, hat⟩
            · exact .inl ⟨hL, by simp⟩
            · exact .inr (.inl (by omega))
            · by_cases hcl : cap = l
              · exact .inr (.inl (by omega))
              · rw [if_neg hcl]
                refine .inr (.inr ⟨ad.add (l * sz), rfl, ?_⟩)
                rcases hat with ⟨rfl, hbb⟩ | ⟨b, o1, cur, et', fr, hs, rfl, hq, hnf, hroom⟩
                · exact .inl ⟨rfl, by rw [add_blk]; exact hbb⟩
                · refine .inr ⟨b, o1, cur, et', fr, hs, by rw [add_none, Nat.add_mul, Nat.add_assoc], hq, hnf, ?_⟩
                  have : l * sz + (cap - l) * sz = cap * sz := by rw [← Nat.add_mul]; congr 1; omega
                  rw [Nat.add_mul]; omega
          · intro ad hA j e c y hj hc
            have hj' := hget j e hj
            have hlt := (List.getElem?_eq_some_iff.1 hj').1
            by_cases hcl : cap = l
            · omega
            · rw [if_neg hcl] at hA
              obtain ⟨ad0, rfl, rfl⟩ := Option.map_eq_some_iff.1 hA
              rw [add_add', ← Nat.add_assoc, ← Nat.add_mul]
              exact g5 ad0 rfl (l + j) e c y hj' hc
          · intro j e c y hj hc
            exact g6 (l + j) e c y (hget j e hj) hc
    · cases hz
  · rename_i e _ _ _ sz heq
    have hund := und_slice (hti _ _ heq) rfl
    obtain ⟨hh, h1, hz⟩ := Option.bind_eq_some_iff.1 hz
    obtain ⟨l, h2, hz⟩ := Option.bind_eq_some_iff.1 hz
    split at hz
    · rename_i hsome
      obtain ⟨inf, hinf⟩ := Option.isSome_iff_exists.1 hsome
      obtain rfl := Option.some.inj hz
      obtain ⟨A, rfl⟩ : ∃ A, u = .slice A 0 0 := by cases hm; exact ⟨_, rfl⟩
      obtain ⟨hl1, hl2, hb⟩ := bounds_run (P := P) (base := base) (σ := σ) (w := w) true (Nat.le_refl 0) h1 h2 hlo hhi
      have hl0 : l = 0 := by omega
      have hh0 : hh = 0 := by omega
      subst hl0 hh0
      refine ⟨.slice A 0 0, ?_, .nil _ A⟩
      simp only [Instr.sliceAt, Sem.run_bind, run_underlying hund, Result.andThen_ok, Instr.slice, hb, run_sizeOf_ (hti _ _ hinf), Sem.run_pure]
      simp
    · cases hz
  · cases hz
end
end Go.Proofs.YtliiphpbfambcaaGreatDoor.K

/- ev1 is what the machine does: structs and slices that are written out, bytes and texts. And all of ev1. Nothing here depends on the program. -/
namespace Go.Proofs.YtliiphpbfambcaaGreatDoor.K
open Go Go.RowKit

section
variable {P : Program} {ti : Tab} {t h : List V} {n : Nat} {o : Oper} {base : Base} {σ : Sig} {w : World}

theorem fold_Ms (seg : List V) : ∀ (ls : List Value) (cs : List V) (l : List Value) (off k : Nat), Ms base σ w cs l → Ms base σ w seg ls →
    Ms base σ w (setAt cs (off + k) seg) ((ls.zipIdx k).foldl (fun (a : Array Value) (p : Value × Nat) => a.setIfInBounds (off + p.2) p.1) l.toArray).toList := by
  induction seg with
  | nil =>
    intro ls cs l off k hc hs
    have : ls = [] := List.eq_nil_of_length_eq_zero (by simpa using hs.1.symm)
    subst this
    simpa [setAt] using hc
  | cons x xs ih =>
    intro ls cs l off k hc hs
    cases ls with
    | nil => have := hs.1; simp at this
    | cons u ls =>
      have hx : M base σ w x u := hs.2 0 x u rfl rfl
      have htail : Ms base σ w xs ls := ⟨by have := hs.1; simpa using this, fun i y v hy hv => hs.2 (i + 1) y v hy hv⟩
      have hset : Ms base σ w (cs.set (off + k) x) (l.set (off + k) u) := by
        refine ⟨by simpa using hc.1, fun i y v hy hv => ?_⟩
        rw [List.getElem?_set] at hy hv
        by_cases hd : off + k = i
        · rw [if_pos hd] at hy hv
          split at hy
          · split at hv
            · obtain rfl := Option.some.inj hy
              obtain rfl := Option.some.inj hv
              exact hx
            · cases hv
          · cases hy
        · rw [if_neg hd] at hy hv
          exact hc.2 i y v hy hv
      have := ih ls (cs.set (off + k) x) (l.set (off + k) u) off (k + 1) hset htail
      simp only [setAt]
      rw [show off + k + 1 = off + (k + 1) from rfl]
      simpa [List.zipIdx_cons] using this

theorem laid_eq (v : Value) (a : Array Value) (off : Nat) : (v.cells.zipIdx.foldl (fun cs (x : Value × Nat) => match x with | (c, j) => cs.setIfInBounds (off + j) c) a) =
    (v.cells.toList.zipIdx 0).foldl (fun (a : Array Value) (p : Value × Nat) => a.setIfInBounds (off + p.2) p.1) a := by
  rw [← Array.foldl_toList, Array.toList_zipIdx]

theorem fill_M {fs : List (Nat × TypeId)} {places : Array (Nat × Nat)}
    (hp : ∀ (i : Nat) off ty inf, fs[i]? = some (off, ty) → ti ty = some inf → places[i]? = some (off, inf.size)) {ρ : Operand → Value} (hρ : ∀ y, M base σ w (opnd t y) (ρ y)) :
    ∀ (parts : List (Nat × Operand)) (cs : List V) (l : List Value) (r : List V), Ms base σ w cs l → fillV ti fs cs (parts.map fun p => (p.1, opnd t p.2)) = some r →
      ∃ l', Instr.fill (places[·]?) l.toArray (parts.map fun p => (p.1, ρ p.2)) = some l'.toArray ∧ Ms base σ w r l' := by
  intro parts
  induction parts with
  | nil =>
    intro cs l r hc hr
    obtain rfl := Option.some.inj hr
    exact ⟨l, rfl, hc⟩
  | cons p parts ih =>
    intro cs l r hc hr
    obtain ⟨i, y⟩ := p
    simp only [List.map_cons, fillV] at hr
    split at hr
    · rename_i off ty hfi
      split at hr
      · rename_i inf hinf
        split at hr
        · rename_i hcond
          simp only [Bool.and_eq_true, beq_iff_eq, decide_eq_true_eq] at hcond
          obtain ⟨⟨hk, hsz⟩, hle⟩ := hcond
          have hm := cells_M hk (hρ y)
          have hl1 : (cellsV (opnd t y)).length = (ρ y).cells.size := by simpa using hm.1
          have hl2 : cs.length = l.length := hc.1
          have hnew := fold_Ms (cellsV (opnd t y)) (ρ y).cells.toList cs l off 0 hc hm
          rw [Nat.add_zero] at hnew
          obtain ⟨l', h1, h2⟩ := ih _ _ r hnew hr
          refine ⟨l', ?_, h2⟩
          simp only [List.map_cons, Instr.fill, hp i off ty inf hfi hinf]
          rw [if_neg (by simp; omega), laid_eq]
          simpa using h1
        · cases hr
      · cases hr
    · cases hr

theorem places_of (hti : TabOk P ti) : ∀ (fields : List Field), (∀ f ∈ fields, (ti f.type).isSome = true) →
    ∃ l : List (Nat × Nat), fields.mapM (fun f => (P.info? f.type).map fun i => (f.offset, i.size)) = some l ∧ ∀ (i : Nat) f inf, fields[i]? = some f → ti f.type = some inf → l[i]? = some (f.offset, inf.size)
  | [], _ => ⟨[], rfl, by simp⟩
  | f :: fields, hs => by
    obtain ⟨l, h1, h2⟩ := places_of hti fields (fun g hg => hs g (List.mem_cons_of_mem _ hg))
    obtain ⟨inf, hinf⟩ := Option.isSome_iff_exists.1 (hs f List.mem_cons_self)
    obtain ⟨x, hx, hxs, _⟩ := (hti _ _ hinf).inf
    refine ⟨(f.offset, inf.size) :: l, ?_, ?_⟩
    · rw [List.mapM_cons, hx, h1]
      simp [hxs]
    · intro i g inf' hg hgi
      cases i with
      | zero =>
        obtain rfl := Option.some.inj hg
        rw [hinf] at hgi
        obtain rfl := Option.some.inj hgi
        rfl
      | succ i => exact h2 i g inf' hg hgi

theorem ok_build {T : TypeId} {parts : Array (Nat × Operand)} {fs : List (Nat × TypeId)} {sz by_ : Nat} {z cs : List V} (hti : TabOk P ti) (hT : ti T = some ⟨.struct fs, sz, by_, z⟩) (ho : o.op = .build T parts) (hz : z ≠ [])
    (ha : (fs.all fun p => (ti p.2).isSome) = true) (hf : fillV ti fs z (parts.toList.map fun p => (p.1, opnd t p.2)) = some cs) : OpS P o t n (.agg cs) 0 := by
  refine OpS.val fun base σ w ρ hρ => ?_
  obtain ⟨d, hd, hk, -⟩ := (hti _ _ hT).und
  obtain ⟨fields, rfl⟩ : ∃ fields, d = .struct fields := by
    cases d with
    | struct fields => exact ⟨fields, rfl⟩
    | _ => exact hk.elim
  have hk' : fields.toList.map (fun f => (f.offset, f.type)) = fs := hk
  obtain ⟨x, hx, hxs, _, hzz⟩ := (hti _ _ hT).inf
  obtain ⟨zv, hz1, hz2⟩ := hzz hz
  have hall : ∀ f ∈ fields.toList, (ti f.type).isSome = true := by
    intro f hf
    have := List.all_eq_true.1 ha (f.offset, f.type) (by rw [← hk']; exact List.mem_map.2 ⟨f, hf, rfl⟩)
    simpa using this
  obtain ⟨places, hp1, hp2⟩ := places_of (P := P) hti fields.toList hall
  have hp : ∀ (i : Nat) off ty inf, fs[i]? = some (off, ty) → ti ty = some inf → places.toArray[i]? = some (off, inf.size) := by
    intro i off ty inf hfi hinf
    rw [← hk', List.getElem?_map] at hfi
    obtain ⟨f, hf, he⟩ := Option.map_eq_some_iff.1 hfi
    simp only [Prod.mk.injEq] at he
    obtain ⟨rfl, rfl⟩ := he
    simpa using hp2 i f inf hf hinf
  obtain ⟨l', h1, h2⟩ := fill_M (base := base) (σ := σ) (w := w) (t := t) hp hρ parts.toList z zv.cells.toList cs (zerosOk_Ms hz2) hf
  refine ⟨.agg l'.toArray, ?_, .agg _ _ h2.1 h2.2⟩
  have hb : P.built T (parts.map fun (i, x) => (i, ρ x)).toList = some l'.toArray := by
    unfold Program.built
    simp only [hx, hd, hz1, hp1]
    have : (parts.map fun (i, x) => (i, ρ x)).toList = parts.toList.map fun p => (p.1, ρ p.2) := by simp
    rw [this]
    simpa using h1
  have hrun := run_build (P := P) w T (parts.map fun (i, x) => (i, ρ x)) l'.toArray hb
  simp only [execOp, ho, Sem.run_bind, hrun, Result.andThen_ok, Sem.run_pure]

def RowsM (base : Base) (σ : Sig) (w : World) (sz : Nat) (es : List (List V)) (cs : Array Value) : Prop :=
  (∀ e ∈ es, e.length = sz) ∧ cs.size = es.length * sz ∧ ∀ (j : Nat) e (c : Nat) y, es[j]? = some e → e[c]? = some y → ∃ u, cs[j * sz + c]? = some u ∧ M base σ w y u

theorem mod_row {j c sz : Nat} (hc : c < sz) : (j * sz + c) % sz = c := by
  rw [Nat.mul_comm, Nat.mul_add_mod, Nat.mod_eq_of_lt hc]
theorem rows_zero {i : TInfo} {z : Array Value} (hz : zerosOk i.zero z.toList = true) (hl : i.zero.length = i.size) (m : Nat) :
    RowsM base σ w i.size (List.replicate m i.zero) ((Array.range (m * i.size)).map (z[· % z.size]!)) := by
  have hm := zerosOk_Ms (base := base) (σ := σ) (w := w) hz
  have hzs : z.size = i.size := by have := hm.1; simp at this; omega
  refine ⟨fun e he => by rw [List.eq_of_mem_replicate he]; exact hl, by simp, fun j e c y hj hc => ?_⟩
  rw [List.getElem?_replicate] at hj
  split at hj
  · rename_i hjm
    obtain rfl := Option.some.inj hj
    have hcl : c < i.size := by have := (List.getElem?_eq_some_iff.1 hc).1; omega
    have hlt : j * i.size + c < m * i.size := by
      have : (j + 1) * i.size ≤ m * i.size := Nat.mul_le_mul_right _ hjm
      rw [Nat.add_mul] at this; omega
    have hcz : c < z.size := by omega
    refine ⟨z[c], ?_, hm.2 c y _ hc (by simp [hcz])⟩
    have hr : (Array.range (m * i.size))[j * i.size + c]? = some (j * i.size + c) := by simp [hlt]
    rw [Array.getElem?_map, hr]
    simp only [Option.map_some, hzs, mod_row hcl]
    congr 1
    exact getElem!_pos z c hcz
  · cases hj
theorem fold_get (ls : List Value) : ∀ (a : Array Value) (off k q : Nat), ((ls.zipIdx k).foldl (fun (a : Array Value) (p : Value × Nat) => a.setIfInBounds (off + p.2) p.1) a)[q]? =
    if off + k ≤ q ∧ q < off + k + ls.length ∧ q < a.size then ls[q - (off + k)]? else a[q]? := by
  induction ls with
  | nil => intro a off k q; rw [if_neg (by simp; omega)]; rfl
  | cons u ls ih =>
    intro a off k q
    rw [List.zipIdx_cons, List.foldl_cons, ih]
    simp only [Array.size_setIfInBounds, List.length_cons]
    by_cases h1 : off + (k + 1) ≤ q ∧ q < off + (k + 1) + ls.length ∧ q < a.size
    · rw [if_pos h1, if_pos (by omega)]
      rw [show q - (off + k) = (q - (off + (k + 1))) + 1 by omega]
      rfl
    · rw [if_neg h1, Array.getElem?_setIfInBounds]
      by_cases h2 : off + k = q
      · subst h2
        rw [if_pos rfl]
        by_cases h3 : off + k < a.size
        · rw [if_pos h3, if_pos (by omega)]
          simp
        · rw [if_neg h3, if_neg (by omega)]
          simp; omega
      · rw [if_neg h2, if_neg (by omega)]
theorem fold_size (ls : List Value) : ∀ (a : Array Value) (off k : Nat), ((ls.zipIdx k).foldl (fun (a : Array Value) (p : Value × Nat) => a.setIfInBounds (off + p.2) p.1) a).size = a.size := by
  induction ls with
  | nil => intro a off k; rfl
  | cons u ls ih => intro a off k; rw [List.zipIdx_cons, List.foldl_cons, ih, Array.size_setIfInBounds]
theorem rows_set {sz : Nat} {es : List (List V)} {cs : Array Value} {e : List V} {l : List Value} (hr : RowsM base σ w sz es cs) (hl : Ms base σ w e l) (hs : e.length = sz) (i : Nat) (hi : i < es.length) :
    RowsM base σ w sz (es.set i e) ((l.zipIdx 0).foldl (fun (a : Array Value) (p : Value × Nat) => a.setIfInBounds (i * sz + p.2) p.1) cs) := by
  obtain ⟨h1, h2, h3⟩ := hr
  refine ⟨fun e' he' => ?_, by rw [fold_size, h2, List.length_set], fun j e' c y hj hc => ?_⟩
  · rcases List.mem_or_eq_of_mem_set he' with h | rfl
    · exact h1 _ h
    · exact hs
  · rw [fold_get, Nat.add_zero]
    have hll : l.length = sz := by rw [← hl.1]; exact hs
    rw [List.getElem?_set] at hj
    by_cases hij : i = j
    · subst hij
      rw [if_pos rfl, if_pos hi] at hj
      obtain rfl := Option.some.inj hj
      have hcl : c < sz := by have := (List.getElem?_eq_some_iff.1 hc).1; omega
      have hlt : i * sz + c < cs.size := by
        rw [h2]
        have : (i + 1) * sz ≤ es.length * sz := Nat.mul_le_mul_right _ hi
        rw [Nat.add_mul] at this; omega
      rw [if_pos (by omega)]
      rw [show i * sz + c - i * sz = c by omega]
      have hcl' : c < l.length := by omega
      exact ⟨l[c], List.getElem?_eq_getElem hcl', hl.2 c y _ hc (List.getElem?_eq_getElem hcl')⟩
    · rw [if_neg hij] at hj
      have hcl : c < sz := by have := (List.getElem?_eq_some_iff.1 hc).1; have := h1 _ (List.mem_of_getElem? hj); omega
      have hfar := idx_far (p := j) (q := i) (fun e => hij e.symm) hcl
      rw [if_neg (by omega)]
      exact h3 j e' c y hj hc
theorem fillE_M {sz : Nat} {ρ : Operand → Value} (hρ : ∀ y, M base σ w (opnd t y) (ρ y)) : ∀ (parts : List (Nat × Operand)) (es : List (List V)) (cs : Array Value) (r : List (List V)), RowsM base σ w sz es cs →
    fillE sz es (parts.map fun p => (p.1, opnd t p.2)) = some r →
    ∃ cs', Instr.fill (fun i => some (i * sz, sz)) cs (parts.map fun p => (p.1, ρ p.2)) = some cs' ∧ RowsM base σ w sz r cs' ∧ r.length = es.length := by
  intro parts
  induction parts with
  | nil =>
    intro es cs r hc hr
    obtain rfl := Option.some.inj hr
    exact ⟨cs, rfl, hc, rfl⟩
  | cons p parts ih =>
    intro es cs r hc hr
    obtain ⟨i, y⟩ := p
    simp only [List.map_cons, fillE] at hr
    split at hr
    · rename_i hcond
      simp only [Bool.and_eq_true, beq_iff_eq, decide_eq_true_eq] at hcond
      obtain ⟨⟨hk, hsz⟩, hle⟩ := hcond
      have hm := cells_M hk (hρ y)
      have hl1 : (cellsV (opnd t y)).length = (ρ y).cells.size := by simpa using hm.1
      have hnew := rows_set hc hm hsz i hle
      obtain ⟨cs', h1, h2, h3⟩ := ih _ _ r hnew hr
      refine ⟨cs', ?_, h2, by rw [h3, List.length_set]⟩
      have hsize := hc.2.1
      have : (i + 1) * sz ≤ es.length * sz := Nat.mul_le_mul_right _ hle
      rw [Nat.add_mul] at this
      simp only [List.map_cons, Instr.fill]
      rw [if_neg (by simp; omega), laid_eq]
      exact h1
    · cases hr

theorem ok_buildSlice {T e : TypeId} {len : Nat} {parts : Array (Nat × Operand)} {inf : TInfo} {s1 b1 : Nat} {z1 : List V} {es : List (List V)} (hti : TabOk P ti) (hT : ti T = some ⟨.slice e, s1, b1, z1⟩) (he : ti e = some inf)
    (ho : o.op = .buildSlice T len parts) (hlen : len * inf.size ≤ 16777216) (hs : 0 < inf.size) (hl : inf.zero.length = inf.size) (hf : fillE inf.size (List.replicate len inf.zero) (parts.toList.map fun p => (p.1, opnd t p.2)) = some es) :
    OpS P o t n (.sl n inf.size 0 es) 1 := by
  have hund := und_slice (hti _ _ hT) rfl
  have hz : inf.zero ≠ [] := fun hz => by rw [hz] at hl; simp at hl; omega
  -- its elements have their cells
  have hel : ∀ e ∈ es, e.length = inf.size := by
    have : ∀ (parts : List (Nat × V)) (a b : List (List V)), (∀ e ∈ a, e.length = inf.size) → fillE inf.size a parts = some b → ∀ e ∈ b, e.length = inf.size := by
      intro parts
      induction parts with
      | nil => intro a b ha hb; obtain rfl := Option.some.inj hb; exact ha
      | cons p parts ih =>
        intro a b ha hb
        simp only [fillE] at hb
        split at hb
        · rename_i hc
          simp only [Bool.and_eq_true, beq_iff_eq, decide_eq_true_eq] at hc
          refine ih _ _ ?_ hb
          intro e he
          rcases List.mem_or_eq_of_mem_set he with h | rfl
          · exact ha _ h
          · exact hc.1.2
        · cases hb
    exact this _ _ _ (fun e he => by rw [List.eq_of_mem_replicate he]; exact hl) hf
  refine OpS.newSlice rfl hel fun base σ w ρ hρ => ?_
  obtain ⟨zv, hz1, hz2⟩ := run_zeroValue_ (hti _ _ he) hz w
  obtain ⟨cs', h1, h2, h3⟩ := fillE_M (base := base) (σ := σ) (w := w) (ρ := ρ) hρ parts.toList _ _ es (rows_zero hz2 hl len) hf
  have hlen' : es.length = len := by rw [h3, List.length_replicate]
  refine ⟨cs', e, (0, 0), 0, len, ?_, nf_zero _, by omega, ?_, by rw [h2.2.1, hlen']; exact Nat.le_refl _, h2.2.2⟩
  · have hparts : (parts.map fun (i, x) => (i, ρ x)).toList = parts.toList.map fun p => (p.1, ρ p.2) := by simp
    have hbig : ¬ len * inf.size > 2 ^ 24 := by omega
    by_cases h0 : len * inf.size = 0
    · have hl0 : len = 0 := by
        rcases Nat.mul_eq_zero.1 h0 with h | h
        · exact h
        · omega
      subst hl0
      have hr : ∀ f : Nat → Value, (Array.range (0 * inf.size)).map f = #[] := fun f => Array.eq_empty_of_size_eq_zero (by simp)
      rw [hr] at h1
      simp only [execOp, ho, Instr.buildSlice, Sem.run_bind, run_underlying hund, Result.andThen_ok, run_sizeOf_ (hti _ _ he)]
      rw [if_neg hbig, if_pos h0]
      simp only [Sem.run_pure, Result.andThen_ok, Sem.run_bind, hr, hparts, h1, newRow, run_newObj_alloc, hlen']
      rfl
    · simp only [execOp, ho, Instr.buildSlice, Sem.run_bind, run_underlying hund, Result.andThen_ok, run_sizeOf_ (hti _ _ he)]
      rw [if_neg hbig, if_neg h0]
      simp only [Sem.run_bind, hz1, Result.andThen_ok, Sem.run_pure, hparts, h1, newRow, run_newObj_alloc, hlen']
      rfl
  · unfold maxLen
    have : len * 1 ≤ len * inf.size := Nat.mul_le_mul_left _ hs
    omega

theorem ok_buildSlice0 {T e : TypeId} {parts : Array (Nat × Operand)} {inf : TInfo} {s1 b1 : Nat} {z1 : List V} (hti : TabOk P ti) (hT : ti T = some ⟨.slice e, s1, b1, z1⟩) (he : ti e = some inf)
    (ho : o.op = .buildSlice T 0 parts) (hp : parts.size = 0) : OpS P o t n (.nil inf.size) 0 := by
  obtain rfl : parts = #[] := Array.eq_empty_of_size_eq_zero hp
  have hund := und_slice (hti _ _ hT) rfl
  refine OpS.newNil rfl fun base σ w ρ hρ => ⟨some ⟨w.heap.size, 0, none⟩, .cells #[] e, 0, ?_⟩
  have hr : ∀ f : Nat → Value, (Array.range 0).map f = #[] := fun f => Array.eq_empty_of_size_eq_zero (by simp)
  simp only [execOp, ho, Instr.buildSlice, Sem.run_bind, run_underlying hund, Result.andThen_ok, run_sizeOf_ (hti _ _ he), Nat.zero_mul]
  rw [if_neg (by omega)]
  simp [Instr.fill, newRow, hr, World.drewN]
end
end Go.Proofs.YtliiphpbfambcaaGreatDoor.K

/- Conversions, make, and all of ev1. Nothing here depends on the program. -/
namespace Go.Proofs.YtliiphpbfambcaaGreatDoor.K
open Go Go.RowKit

section
variable {P : Program} {ti : Tab} {t h : List V} {n : Nat} {o : Oper}

theorem bytesV_spec : ∀ (es : List (List V)) (s : List UInt8), bytesV es = some s → ∃ ns : List Int, es = ns.map (fun n => [.int .u8 n]) ∧ s = ns.map (fun n => UInt8.ofNat n.toNat)
  | [], s, h => ⟨[], rfl, by obtain rfl := Option.some.inj h; rfl⟩
  | e :: es, s, h => by
    unfold bytesV at h
    split at h
    · rename_i heq; cases heq
    · rename_i m es' heq
      simp only [List.cons.injEq] at heq
      obtain ⟨rfl, rfl⟩ := heq
      obtain ⟨s', hs', rfl⟩ := Option.map_eq_some_iff.1 h
      obtain ⟨ns, rfl, rfl⟩ := bytesV_spec es s' hs'
      exact ⟨m :: ns, rfl, rfl⟩
    · cases h
theorem push_fold (ns : List Int) : ∀ (acc : List UInt8), ns.foldl (fun (r : ByteArray) n => r.push (UInt8.ofNat n.toNat)) ⟨acc.toArray⟩ = ⟨(acc ++ ns.map (fun n => UInt8.ofNat n.toNat)).toArray⟩ := by
  induction ns with
  | nil => intro acc; simp
  | cons n ns ih =>
    intro acc
    rw [List.foldl_cons]
    have : (⟨acc.toArray⟩ : ByteArray).push (UInt8.ofNat n.toNat) = ⟨(acc ++ [UInt8.ofNat n.toNat]).toArray⟩ := by
      simp [ByteArray.push]
    rw [this, ih]
    simp

theorem ok_convert {s d : TypeId} {x : Operand} {z : V} (hti : TabOk P ti) (ho : o.op = .convert s d x) (hz : convV ti s d (opnd t x) = some z) : OpS P o t n z 0 := by
  refine OpS.val fun base σ w ρ hρ => ?_
  have hm := hρ x
  have hrun : (execOp ρ o).run P w = ((convert s d (ρ x)).run P w).andThen (fun v => (pure (Next.value v) : Sem Next).run P) := by
    simp only [execOp, ho, Sem.run_bind]
  rw [hrun]
  generalize ρ x = u at hm
  generalize opnd t x = X at hz hm
  unfold convV at hz
  split at hz
  · rename_i i0 k _ _ _ k' m h1 h2
    obtain rfl := Option.some.inj hz
    cases hm
    obtain ⟨ds, hds, _⟩ := (hti _ _ h1).und
    have hdd := und_int (hti _ _ h2) rfl
    refine ⟨_, ?_, .int _ _⟩
    simp only [convert, Sem.run_bind, run_underlying hds, run_underlying hdd, Result.andThen_ok]
    cases ds <;> rfl
  · rename_i h1 h2
    obtain rfl := Option.some.inj hz
    cases hm
    have hds := und_str (hti _ _ h1) rfl
    have hdd := und_str (hti _ _ h2) rfl
    refine ⟨_, ?_, .str _⟩
    simp only [convert, Sem.run_bind, run_underlying hds, run_underlying hdd, Result.andThen_ok]
    rfl
  · rename_i e _ _ _ _ _ _ L sz off es h1 h2
    obtain ⟨i, hi, hz⟩ := Option.bind_eq_some_iff.1 hz
    split at hz
    · rename_i hk
      obtain ⟨bs, hb, rfl⟩ := Option.map_eq_some_iff.1 hz
      obtain ⟨ns, rfl, rfl⟩ := bytesV_spec es bs hb
      have hds := und_slice (hti _ _ h1) rfl
      have hdd := und_str (hti _ _ h2) rfl
      have hee := und_int (hti _ _ hi) hk
      cases hm with
      | sl _ _ _ _ A cap uu g1 g2 g3 g4 g5 g6 =>
        refine ⟨.string ⟨(ns.map (fun n => UInt8.ofNat n.toNat)).toArray⟩, ?_, .str _⟩
        simp only [convert, Sem.run_bind, run_underlying hds, run_underlying hdd, Result.andThen_ok, run_underlying hee]
        cases ns with
        | nil =>
          cases A with
          | none => rfl
          | some ad =>
            have hl : (loadCells ad 0).run P w = .ok (([] : List Int).map (Value.int .u8)).toArray w := rfl
            have := run_bytesToString (P := P) w ad 0 cap [] hl
            simp only [List.map_nil, List.length_nil]
            rw [this]
            rfl
        | cons n0 ns0 =>
          have hsz : sz = 1 := by have := g3 [.int .u8 n0] (by simp); simpa using this.symm
          subst hsz
          rcases g4 with ⟨_, h0⟩ | hcap | ⟨ad, rfl, hat⟩
          · cases h0
          · simp at g1; omega
          · have hcells : ∀ (j : Nat) v, (((n0 :: ns0).map (Value.int .u8)))[j]? = some v → w.cell? (ad.add j) = some v := by
              intro j v hv
              rw [List.getElem?_map] at hv
              obtain ⟨q, hq, rfl⟩ := Option.map_eq_some_iff.1 hv
              have hj : ((n0 :: ns0).map (fun n => [V.int .u8 n]))[j]? = some [.int .u8 q] := by rw [List.getElem?_map, hq]; rfl
              have h5 := g5 ad rfl j _ 0 _ hj rfl
              have h6 := g6 j _ 0 _ hj rfl
              rw [Nat.mul_one, Nat.add_zero] at h5
              rw [h5]
              generalize uu j 0 = q' at h6
              cases h6
              rfl
            have hl := run_loadCells_list (P := P) w ad ((n0 :: ns0).map (Value.int .u8)) hcells
            rw [List.length_map] at hl
            have := run_bytesToString (P := P) w ad (n0 :: ns0).length cap (n0 :: ns0) hl
            rw [List.length_map, this]
            have hf := push_fold (n0 :: ns0) []
            simp only [List.nil_append] at hf
            have he : ByteArray.empty = ⟨([] : List UInt8).toArray⟩ := rfl
            rw [he, hf]
            rfl
    · cases hz
  · rename_i e _ _ _ _ _ _ sz h1 h2
    obtain ⟨i, hi, hz⟩ := Option.bind_eq_some_iff.1 hz
    split at hz
    · rename_i hk
      obtain rfl := Option.some.inj hz
      have hds := und_slice (hti _ _ h1) rfl
      have hdd := und_str (hti _ _ h2) rfl
      have hee := und_int (hti _ _ hi) hk
      obtain ⟨A, rfl⟩ : ∃ A, u = .slice A 0 0 := by cases hm; exact ⟨_, rfl⟩
      refine ⟨.string ⟨([] : List UInt8).toArray⟩, ?_, .str []⟩
      simp only [convert, Sem.run_bind, run_underlying hds, run_underlying hdd, Result.andThen_ok, run_underlying hee]
      cases A with
      | none => rfl
      | some ad =>
        have hl : (loadCells ad 0).run P w = .ok (([] : List Int).map (Value.int .u8)).toArray w := rfl
        have := run_bytesToString (P := P) w ad 0 0 [] hl
        rw [this]
        rfl
    · cases hz
  · cases hz

end
end Go.Proofs.YtliiphpbfambcaaGreatDoor.K

/- All of ev1; stores; make; append. Nothing here depends on the program. -/
namespace Go.Proofs.YtliiphpbfambcaaGreatDoor.K
open Go Go.RowKit

section
variable {P : Program} {ti : Tab} {t h : List V} {n : Nat} {o : Oper}

theorem ev1_S (hti : TabOk P ti) {op : Op} {x : V} {n' : Nat} (ho : o.op = op) (he : ev1 ti t n o.type op = some (x, n')) : ∃ c, n' = n + c ∧ OpS P o t n x c := by
  cases op with
  | move y =>
    simp only [ev1, Option.some.injEq, Prod.mk.injEq] at he
    obtain ⟨rfl, rfl⟩ := he
    exact ⟨0, rfl, ok_move (.inl ho)⟩
  | assign y =>
    simp only [ev1, Option.some.injEq, Prod.mk.injEq] at he
    obtain ⟨rfl, rfl⟩ := he
    exact ⟨0, rfl, ok_move (.inr ho)⟩
  | pick c a b =>
    simp only [ev1] at he
    split at he
    · rename_i hc
      simp only [Option.some.injEq, Prod.mk.injEq] at he
      obtain ⟨rfl, rfl⟩ := he
      exact ⟨0, rfl, ok_pick ho (.inl ⟨hc, rfl⟩)⟩
    · rename_i hc
      simp only [Option.some.injEq, Prod.mk.injEq] at he
      obtain ⟨rfl, rfl⟩ := he
      exact ⟨0, rfl, ok_pick ho (.inr ⟨hc, rfl⟩)⟩
    · cases he
  | alloc T =>
    simp only [ev1] at he
    split at he
    · rename_i i hi
      split at he
      · rename_i hc
        simp only [Option.some.injEq, Prod.mk.injEq] at he
        obtain ⟨rfl, rfl⟩ := he
        exact ⟨1, rfl, ok_alloc (hti _ _ hi) ho hc.2⟩
      · cases he
    · cases he
  | box T y =>
    simp only [ev1] at he
    split at he
    · rename_i hk
      simp only [Option.some.injEq, Prod.mk.injEq] at he
      obtain ⟨rfl, rfl⟩ := he
      exact ⟨1, rfl, ok_box ho hk⟩
    · cases he
  | build T parts =>
    simp only [ev1] at he
    split at he
    · rename_i fs sz by_ z hT
      split at he
      · rename_i hc
        obtain ⟨cs, hcs, he⟩ := Option.map_eq_some_iff.1 he
        simp only [Prod.mk.injEq] at he
        obtain ⟨rfl, rfl⟩ := he
        exact ⟨0, rfl, ok_build hti hT ho hc.1 hc.2 hcs⟩
      · cases he
    · cases he
  | buildSlice T len parts =>
    simp only [ev1] at he
    split at he
    · rename_i e s1 b1 z1 hT
      split at he
      · rename_i i hi
        split at he
        · rename_i hl0
          subst hl0
          split at he
          · rename_i hc
            simp only [Option.some.injEq, Prod.mk.injEq] at he
            obtain ⟨rfl, rfl⟩ := he
            exact ⟨0, rfl, ok_buildSlice0 hti hT hi ho hc.1⟩
          · cases he
        split at he
        · rename_i hc
          obtain ⟨es, hes, he⟩ := Option.map_eq_some_iff.1 he
          simp only [Prod.mk.injEq] at he
          obtain ⟨rfl, rfl⟩ := he
          exact ⟨1, rfl, ok_buildSlice hti hT hi ho hc.1 hc.2.1 hc.2.2 hes⟩
        · cases he
      · cases he
    · cases he
  | load T a =>
    simp only [ev1] at he
    split at he
    · rename_i i hi
      obtain ⟨z, hz, he⟩ := Option.map_eq_some_iff.1 he
      simp only [Prod.mk.injEq] at he
      obtain ⟨rfl, rfl⟩ := he
      exact ⟨0, rfl, ok_load (hti _ _ hi) ho hz⟩
    · cases he
  | nilCheck y =>
    simp only [ev1] at he
    split at he
    · rename_i L i o' e hx
      simp only [Option.some.injEq, Prod.mk.injEq] at he
      obtain ⟨rfl, rfl⟩ := he
      exact ⟨0, rfl, ok_nilCheck ho hx (.inl ⟨_, _, _, _, rfl⟩)⟩
    · rename_i f cs hx
      simp only [Option.some.injEq, Prod.mk.injEq] at he
      obtain ⟨rfl, rfl⟩ := he
      exact ⟨0, rfl, ok_nilCheck ho hx (.inr ⟨_, _, rfl⟩)⟩
    · cases he
  | binOp op T x y T' =>
    simp only [ev1] at he
    obtain ⟨z, hz, he⟩ := Option.map_eq_some_iff.1 he
    simp only [Prod.mk.injEq] at he
    obtain ⟨rfl, rfl⟩ := he
    exact ⟨0, rfl, ok_bin hti ho hz⟩
  | unOp op T x =>
    simp only [ev1] at he
    obtain ⟨z, hz, he⟩ := Option.map_eq_some_iff.1 he
    simp only [Prod.mk.injEq] at he
    obtain ⟨rfl, rfl⟩ := he
    exact ⟨0, rfl, ok_un ho hz⟩
  | convert s d x =>
    simp only [ev1] at he
    obtain ⟨z, hz, he⟩ := Option.map_eq_some_iff.1 he
    simp only [Prod.mk.injEq] at he
    obtain ⟨rfl, rfl⟩ := he
    exact ⟨0, rfl, ok_convert hti ho hz⟩
  | fieldAddr T x f =>
    simp only [ev1] at he
    split at he
    · rename_i L i o' e off fty hx hf
      split at he
      · rename_i inf hi
        split at he
        · cases he
        · rename_i hs
          simp only [Option.some.injEq, Prod.mk.injEq] at he
          obtain ⟨rfl, rfl⟩ := he
          exact ⟨0, rfl, ok_fieldAddr hti ho hx hf hi hs⟩
      · cases he
    · cases he
  | field T x f =>
    simp only [ev1] at he
    split at he
    · rename_i cs off fty hx hf
      split at he
      · rename_i inf hi
        obtain ⟨z, hz, he⟩ := Option.map_eq_some_iff.1 he
        simp only [Prod.mk.injEq] at he
        obtain ⟨rfl, rfl⟩ := he
        exact ⟨0, rfl, ok_field hti ho hx hf hi hz⟩
      · cases he
    · cases he
  | indexAddr T x ix =>
    simp only [ev1] at he
    obtain ⟨z, hz, he⟩ := Option.map_eq_some_iff.1 he
    simp only [Prod.mk.injEq] at he
    obtain ⟨rfl, rfl⟩ := he
    exact ⟨0, rfl, ok_indexAddr hti ho hz⟩
  | index T x ix =>
    simp only [ev1] at he
    obtain ⟨z, hz, he⟩ := Option.map_eq_some_iff.1 he
    simp only [Prod.mk.injEq] at he
    obtain ⟨rfl, rfl⟩ := he
    exact ⟨0, rfl, ok_index hti ho hz⟩
  | slice T x lo hi mx =>
    cases mx with
    | some m => simp [ev1] at he
    | none =>
      simp only [ev1] at he
      obtain ⟨z, hz, he⟩ := Option.map_eq_some_iff.1 he
      simp only [Prod.mk.injEq] at he
      obtain ⟨rfl, rfl⟩ := he
      exact ⟨0, rfl, ok_slice hti ho hz⟩
  | extract y i =>
    simp only [ev1] at he
    split at he
    · rename_i vs hx
      obtain ⟨z, hz, he⟩ := Option.map_eq_some_iff.1 he
      simp only [Prod.mk.injEq] at he
      obtain ⟨rfl, rfl⟩ := he
      exact ⟨0, rfl, ok_extract ho hx hz⟩
    · cases he
  | makeFunc fn first caps =>
    cases fn with
    | func f =>
      simp only [ev1] at he
      split at he
      · rename_i hf
        simp only [Option.some.injEq, Prod.mk.injEq] at he
        obtain ⟨rfl, rfl⟩ := he
        exact ⟨0, rfl, ok_makeFunc ho hf⟩
      · cases he
    | _ => simp [ev1] at he
  | call c =>
    simp only [ev1] at he
    obtain ⟨z, hz, he⟩ := Option.map_eq_some_iff.1 he
    simp only [Prod.mk.injEq] at he
    obtain ⟨rfl, rfl⟩ := he
    obtain ⟨callee, args, argTypes⟩ := c
    cases callee with
    | builtin b =>
      simp only [bltV] at hz
      split at hz
      · rename_i y T h1 h2
        split at hz
        · rename_i hf
          have e1 : args = #[y] := by apply Array.ext'; simpa using h1
          have e2 : argTypes = #[T] := by apply Array.ext'; simpa using h2
          subst e1 e2
          exact ⟨0, rfl, ok_len hti ho hf hz⟩
        · cases hz
      · rename_i y y2 h1
        have e1 : args = #[y, y2] := by apply Array.ext'; simpa using h1
        subst e1
        exact ⟨0, rfl, ok_minmax (mx := false) ho hz⟩
      · rename_i y y2 h1
        have e1 : args = #[y, y2] := by apply Array.ext'; simpa using h1
        subst e1
        exact ⟨0, rfl, ok_minmax (mx := true) ho hz⟩
      · cases hz
    | _ => simp [bltV] at hz
  | _ => simp [ev1] at he
theorem ev1_ok (hti : TabOk P ti) {op : Op} {x : V} {n' : Nat} (ho : o.op = op) (he : ev1 ti t n o.type op = some (x, n')) : OpOk P o t h n (putV t o.dst x) h n' := by
  obtain ⟨c, rfl, hs⟩ := ev1_S hti ho he
  exact hs.ok
end
end Go.Proofs.YtliiphpbfambcaaGreatDoor.K

/- Stores, make, append. Nothing here depends on the program. -/
namespace Go.Proofs.YtliiphpbfambcaaGreatDoor.K
open Go Go.RowKit

section
variable {P : Program} {ti : Tab} {t h : List V} {n : Nat} {o : Oper}

theorem storeCells_run (b q : Nat) (et : TypeId) (fr : Nat × Nat) : ∀ (vs : List Value) (i : Nat) (cur : Array Value) (w : World), w.heap[b]? = some (.cells cur et fr) → Nf fr cur.size → q + i + vs.length ≤ cur.size → (∀ v ∈ vs, v.oneCell' = true) →
    ∃ w' cur', (storeCells ⟨b, q, none⟩ vs i).run P w = .ok () w' ∧ w'.heap[b]? = some (.cells cur' et fr) ∧ cur'.size = cur.size ∧
      (∀ p, cur'[p]? = if q + i ≤ p ∧ p < q + i + vs.length then vs[p - (q + i)]? else cur[p]?) ∧ (∀ k, k ≠ b → w'.heap[k]? = w.heap[k]?) ∧
      w'.os = w.os ∧ w'.tape = w.tape ∧ w'.output = w.output ∧ w'.heap.size = w.heap.size
  | [], i, cur, w, hb, hnf, hsz, h1 => ⟨w, cur, rfl, hb, rfl, fun p => by rw [if_neg (by simp)], fun _ _ => rfl, rfl, rfl, rfl, rfl⟩
  | v :: vs, i, cur, w, hb, hnf, hsz, h1 => by
    simp only [List.length_cons] at hsz
    have hadd := add_none b q i
    have hcell : w.cell? ⟨b, q + i, none⟩ = some (cur[q + i]'(by omega)) := by rw [cell_at hb]; exact Array.getElem?_eq_getElem _
    have hfz : w.frozen? ⟨b, q + i, none⟩ = false := by
      simp only [World.frozen?, hb]
      rcases hnf with h | h <;> simp <;> omega
    have hrun : (store (⟨b, q + i, none⟩ : Addr) v).run P w = .ok () (w.setCell ⟨b, q + i, none⟩ v) := by
      rw [run_store P w _ _ _ (h1 v List.mem_cons_self), hcell]
      simp [hfz]
    have hb' : (w.setCell ⟨b, q + i, none⟩ v).heap[b]? = some (.cells (cur.setIfInBounds (q + i) v) et fr) := by
      simp [World.setCell, Array.getElem?_modify, hb]
    obtain ⟨w', cur', h2, h3, h4, h5, h6, h7, h8, h9, h10⟩ := storeCells_run b q et fr vs (i + 1) _ _ hb' (by rw [Array.size_setIfInBounds]; exact hnf) (by rw [Array.size_setIfInBounds]; omega) (fun u hu => h1 u (List.mem_cons_of_mem _ hu))
    refine ⟨w', cur', ?_, h3, by rw [h4, Array.size_setIfInBounds], fun p => ?_, fun k hk => (h6 k hk).trans (Below.heap_setCell _ _ _ _ hk), h7, h8, h9, by rw [h10]; simp [World.setCell]⟩
    · simp only [storeCells, hadd, Sem.run_bind, hrun, Result.andThen_ok]
      exact h2
    · rw [h5 p]
      simp only [List.length_cons]
      by_cases hp : q + (i + 1) ≤ p ∧ p < q + (i + 1) + vs.length
      · rw [if_pos hp, if_pos (by omega)]
        rw [show p - (q + i) = (p - (q + (i + 1))) + 1 by omega]
        rfl
      · rw [if_neg hp, Array.getElem?_setIfInBounds]
        by_cases hq : q + i = p
        · subst hq
          rw [if_pos rfl, if_pos (by omega), if_pos (by omega)]
          simp
        · rw [if_neg hq, if_neg (by omega)]

theorem Ms.setAt_ {base : Base} {σ : Sig} {w : World} (seg : List V) : ∀ (e : List V) (o : Nat) (u : Nat → Value) (l : List Value), (∀ (c : Nat) x, e[c]? = some x → M base σ w x (u c)) → Ms base σ w seg l → o + seg.length ≤ e.length →
    ∀ (c : Nat) x, (setAt e o seg)[c]? = some x → M base σ w x (if o ≤ c ∧ c < o + seg.length then l.getD (c - o) undef else u c) := by
  induction seg with
  | nil => intro e o u l he hl _ c x hx; rw [if_neg (by simp)]; exact he c x hx
  | cons y seg ih =>
    intro e o u l he hl hle c x hx
    cases l with
    | nil => have := hl.1; simp at this
    | cons v l =>
      simp only [List.length_cons] at hle
      have htail : Ms base σ w seg l := ⟨by have := hl.1; simpa using this, fun i y v hy hv => hl.2 (i + 1) y v hy hv⟩
      have hy : M base σ w y v := hl.2 0 y v rfl rfl
      have hset : ∀ (c : Nat) x, (e.set o y)[c]? = some x → M base σ w x ((fun c => if c = o then v else u c) c) := by
        intro c x hx
        rw [List.getElem?_set] at hx
        by_cases hc : o = c
        · rw [if_pos hc] at hx
          split at hx
          · obtain rfl := Option.some.inj hx
            simp only [hc, if_true]; exact hy
          · cases hx
        · rw [if_neg hc] at hx
          simp only []
          rw [if_neg (fun e => hc e.symm)]
          exact he c x hx
      have := ih (e.set o y) (o + 1) _ l hset htail (by rw [List.length_set]; omega) c x hx
      simp only [List.length_cons]
      by_cases h1 : o + 1 ≤ c ∧ c < o + 1 + seg.length
      · rw [if_pos h1] at this
        rw [if_pos (by omega)]
        rw [show c - o = (c - (o + 1)) + 1 by omega]
        exact this
      · rw [if_neg h1] at this
        by_cases h2 : c = o
        · subst h2
          rw [if_pos (by omega)]
          simp only [if_true] at this
          simpa using this
        · rw [if_neg (by omega)]
          rw [if_neg h2] at this
          exact this

def storeV (i : TInfo) (p x : V) : Option (Nat × Nat × List V) :=
  match p with
  | .ptr L j o e => if x.known && (cellsV x).length == i.size && (cellsV x).all V.one && decide (o + (cellsV x).length ≤ e.length) && L != 0 then some (L, j, setAt e o (cellsV x)) else none
  | _ => none

theorem ok_store {T : TypeId} {i : TInfo} {p x : Operand} {L j : Nat} {e' : List V} (ht : TOk P T i) (ho : o.op = .store T p x) (hs : storeV i (opnd t p) (opnd t x) = some (L, j, e')) (hfree : L ∉ V.labelsL e') :
    OpOk P o t h n (putV (V.updL L j e' t) o.dst .any) (V.updL L j e' h) n := by
  intro base w0 hv σ a w g K Q hK
  have hp := opnd_M g.ts p
  have hx := opnd_M g.ts x
  generalize hpv : a.eval p = pv at hp
  generalize hxv : a.eval x = xv at hx
  generalize opnd t p = pp at hs hp
  generalize opnd t x = xx at hs hx
  unfold storeV at hs
  split at hs
  · rename_i L0 j0 o0 e0
    split at hs
    · rename_i hc
      simp only [Bool.and_eq_true, beq_iff_eq, decide_eq_true_eq, bne_iff_ne, ne_eq, List.all_eq_true] at hc
      obtain ⟨⟨⟨⟨hk, hsz⟩, hone⟩, hle⟩, hL⟩ := hc
      simp only [Option.some.injEq, Prod.mk.injEq] at hs
      obtain ⟨rfl, rfl, rfl⟩ := hs
      have hcells := cells_M hk hx
      have hlen : (cellsV xx).length = xv.cells.size := by simpa using hcells.1
      cases hp with
      | ptr _ _ _ _ ad u h4 h5 h6 =>
        rcases h4 with ⟨h0, _⟩ | ⟨b, oo, cur, et, fr, hσ, rfl, hh, hnf, hroom⟩
        · exact absurd h0 hL
        · have hone' : ∀ v ∈ xv.cells.toList, v.oneCell' = true := by
            intro v hv
            obtain ⟨q, hq⟩ := List.mem_iff_getElem?.1 hv
            have hql : q < (cellsV xx).length := by have := (List.getElem?_eq_some_iff.1 hq).1; rw [hcells.1]; exact this
            have hxq : (cellsV xx)[q]? = some (cellsV xx)[q] := List.getElem?_eq_getElem hql
            exact one_cell (hone _ (List.mem_of_getElem? hxq)) (hcells.2 q _ v hxq hq)
          obtain ⟨w', cur', hrun, hb', hsize, hcur, hoth, hos, htape, hout, hhs⟩ := storeCells_run (P := P) b (oo + j0 * e0.length + o0) et fr xv.cells.toList 0 cur w hh hnf (by simp; omega) hone'
          rw [Nat.add_zero] at hcur
          have hput : Put base σ w w' L0 j0 (setAt e0 o0 (cellsV xx)) := by
            refine ⟨b, oo, e0.length, cur, cur', et, fr, fun c => if o0 ≤ c ∧ c < o0 + (cellsV xx).length then xv.cells.toList.getD (c - o0) undef else u c, hσ, hh, hb', hsize, (g.inv.own L0 b oo _ hσ).1, ?_, hoth, ?_, setAt_len _ _ _, ?_, ?_⟩
            · intro q hq
              rw [hcur q, if_neg (by simp; omega)]
            · intro L2 b2 o2 s2 hne h2 hbb
              subst hbb
              exact hne (g.inv.inj L2 L0 b2 _ _ _ _ h2 hσ)
            · intro c y hy
              have hcl : c < e0.length := by have := (List.getElem?_eq_some_iff.1 hy).1; rw [setAt_len] at this; exact this
              show cur'[oo + j0 * e0.length + c]? = some (if o0 ≤ c ∧ c < o0 + (cellsV xx).length then xv.cells.toList.getD (c - o0) undef else u c)
              rw [hcur]
              by_cases hin : o0 ≤ c ∧ c < o0 + (cellsV xx).length
              · rw [if_pos (by simp; omega), if_pos hin]
                rw [show oo + j0 * e0.length + c - (oo + j0 * e0.length + o0) = c - o0 by omega]
                have : c - o0 < xv.cells.toList.length := by simp; omega
                rw [List.getElem?_eq_getElem this, List.getD_eq_getElem?_getD, List.getElem?_eq_getElem this]
                rfl
              · rw [if_neg (by simp; omega), if_neg hin]
                have := h5 c _ (List.getElem?_eq_getElem hcl)
                rw [add_none, cell_at hh] at this
                exact this
            · intro c y hy
              have hm := Ms.setAt_ (base := base) (σ := σ) (w := w) (cellsV xx) e0 o0 u xv.cells.toList h6 hcells hle c y hy
              have hkeep : Keeps (some L0) base σ w σ w' := by
                refine ⟨fun k hk => ?_, fun L2 b2 o2 s2 hne h2 => ⟨h2, hoth b2 ?_⟩⟩
                · have he := hoth k (Ne.symm (hk.2.1 L0 b oo _ hσ))
                  refine ⟨⟨?_, hk.2⟩, he⟩
                  rw [Array.getElem?_eq_getElem hk.1] at he
                  exact (Array.getElem?_eq_some_iff.1 he).1
                · rintro rfl
                  exact hne (by rw [g.inv.inj L2 L0 b2 _ _ _ _ h2 hσ])
              refine hm.keep hkeep fun L2 hL2 e => hfree ?_
              obtain rfl := Option.some.inj e
              exact mem_labelsL.2 ⟨y, List.mem_of_getElem? hy, hL2⟩
          have hrun' : (execOp a.eval o).run P w = .ok .skip w' := by
            have hst : (storeVar T ((⟨b, oo + j0 * e0.length, none⟩ : Addr).add o0) xv).run P w = .ok () w' := by
              unfold storeVar
              simp only [Sem.run_bind, run_sizeOf_ ht, Result.andThen_ok]
              rw [if_neg (by omega), add_none]
              exact hrun
            simp only [execOp, ho, hpv, hxv, Instr.storeAt, Instr.sureAddr, Sem.run_bind, Sem.run_pure, Result.andThen_ok, hst]
          unfold Oper.wp
          rw [hrun']
          have hbase := (g.inv.own L0 b oo _ hσ).1
          refine hK σ _ _ ⟨(g.ts.upd g.inv.zero hput).put _ (.any _), g.hs.upd g.inv.zero hput, by cases o.dst <;> exact g.dfr, ?_, ?_, g.gk⟩
          · exact ⟨hos.trans g.bel.os, htape.trans g.bel.tape, hout.trans g.bel.output, by rw [hhs]; exact g.bel.size, fun k hk => (hoth k (by omega)).trans (g.bel.block k hk)⟩
          · exact ⟨by rw [hhs]; exact g.inv.bs, g.inv.pos, g.inv.zero, g.inv.fresh, fun L b o s hh => by rw [hhs]; exact g.inv.own L b o s hh, g.inv.inj⟩
    · cases hs
  · cases hs
end
end Go.Proofs.YtliiphpbfambcaaGreatDoor.K

/- append, make. Nothing here depends on the program. -/
namespace Go.Proofs.YtliiphpbfambcaaGreatDoor.K
open Go Go.RowKit

section
variable {P : Program} {ti : Tab} {t h : List V} {n : Nat} {o : Oper} {base : Base} {σ : Sig} {w : World}

theorem sl_cells {L sz off : Nat} {es : List (List V)} {v : Value} (hm : M base σ w (.sl L sz off es) v) : ∃ (A : Option Addr) (cap : Nat) (vs : List Value), v = .slice A es.length cap ∧ es.length ≤ cap ∧ cap ≤ maxLen ∧
    (∀ e ∈ es, e.length = sz) ∧ ((L = 0 ∧ es = []) ∨ cap = 0 ∨ ∃ ad, A = some ad ∧ At base σ w L sz (off * sz) (cap * sz) ad) ∧ vs.length = es.length * sz ∧ (∀ ad, A = some ad → ∀ (j : Nat) u, vs[j]? = some u → w.cell? (ad.add j) = some u) ∧
    (∀ (j : Nat) e (c : Nat) y, es[j]? = some e → e[c]? = some y → ∃ u, vs[j * sz + c]? = some u ∧ M base σ w y u) ∧ ((∀ e ∈ es, ∀ y ∈ e, V.one y = true) → ∀ u ∈ vs, u.oneCell' = true) := by
  cases hm with
  | sl _ _ _ _ A cap u h1 h2 h3 h4 h5 h6 =>
    have hget : ∀ q, q < es.length * sz → ∃ e y, es[q / sz]? = some e ∧ e[q % sz]? = some y ∧ q / sz * sz + q % sz = q := by
      intro q hq
      have hsz : 0 < sz := by
        rcases Nat.eq_zero_or_pos sz with h | h
        · rw [h] at hq; omega
        · exact h
      have hj : q / sz < es.length := Nat.div_lt_of_lt_mul (by rw [Nat.mul_comm]; exact hq)
      have hc : q % sz < (es[q / sz]).length := by rw [h3 _ (List.getElem_mem hj)]; exact Nat.mod_lt _ hsz
      exact ⟨es[q / sz], (es[q / sz])[q % sz], List.getElem?_eq_getElem hj, List.getElem?_eq_getElem hc, by rw [Nat.mul_comm]; exact Nat.div_add_mod q sz⟩
    have hvs : ∀ (q : Nat) x, ((List.range (es.length * sz)).map fun q => u (q / sz) (q % sz))[q]? = some x → q < es.length * sz ∧ x = u (q / sz) (q % sz) := by
      intro q x hx
      rw [List.getElem?_map] at hx
      obtain ⟨q', hq', rfl⟩ := Option.map_eq_some_iff.1 hx
      have hlt : q < es.length * sz := by have := (List.getElem?_eq_some_iff.1 hq').1; simpa using this
      rw [List.getElem?_range hlt] at hq'
      obtain rfl := Option.some.inj hq'
      exact ⟨hlt, rfl⟩
    refine ⟨A, cap, (List.range (es.length * sz)).map fun q => u (q / sz) (q % sz), rfl, h1, h2, h3, h4, by simp, ?_, ?_, ?_⟩
    · intro ad hA q x hx
      obtain ⟨hlt, rfl⟩ := hvs q x hx
      obtain ⟨e, y, he, hy, hq⟩ := hget q hlt
      have := h5 ad hA _ e _ y he hy
      rw [hq] at this
      exact this
    · intro j e c y he hy
      have hcl : c < sz := by have := (List.getElem?_eq_some_iff.1 hy).1; rw [h3 _ (List.mem_of_getElem? he)] at this; exact this
      have hjl := (List.getElem?_eq_some_iff.1 he).1
      have hlt : j * sz + c < es.length * sz := by
        have : (j + 1) * sz ≤ es.length * sz := Nat.mul_le_mul_right _ hjl
        rw [Nat.add_mul] at this; omega
      refine ⟨u j c, ?_, h6 j e c y he hy⟩
      rw [List.getElem?_map, List.getElem?_range hlt]
      have hd : (j * sz + c) / sz = j := by
        rw [Nat.mul_comm, Nat.mul_add_div (by omega), Nat.div_eq_of_lt hcl, Nat.add_zero]
      simp only [Option.map_some, hd, mod_row hcl]
    · intro hone x hx
      obtain ⟨q, hq⟩ := List.mem_iff_getElem?.1 hx
      obtain ⟨hlt, rfl⟩ := hvs q x hq
      obtain ⟨e, y, he, hy, _⟩ := hget q hlt
      exact one_cell (hone e (List.mem_of_getElem? he) y (List.mem_of_getElem? hy)) (h6 _ e _ y he hy)

theorem Old.addSig {L b' o' sz k : Nat} {w' : World} (h : Old base σ w k) (hb : b' = k → False) (hs : w.heap.size ≤ w'.heap.size) : Old base (addSig σ L b' o' sz) w' k := by
  refine ⟨by have := h.1; omega, fun L2 b o s hs2 => ?_, h.2.2⟩
  by_cases h2 : L2 = L
  · subst h2
    rw [addSig_self] at hs2
    obtain ⟨rfl, _⟩ : b' = b ∧ _ := by simpa using hs2
    exact hb
  · rw [addSig_ne h2] at hs2
    exact h.2.1 L2 b o s hs2
theorem addSig_inv {L b' o' sz : Nat} (inv : Inv base σ w n) {w' : World} (hL0 : L ≠ 0) (hLn : L < n) (hs : w.heap.size ≤ w'.heap.size) (hb : base.lim ≤ b') (hb' : b' < w'.heap.size)
    (hfar : ∀ L2 o2 s2, L2 ≠ L → σ L2 = some (b', o2, s2) → False) : Inv base (addSig σ L b' o' sz) w' n := by
  refine ⟨by have := inv.bs; omega, inv.pos, by rw [addSig_ne (Ne.symm hL0)]; exact inv.zero, fun L2 h2 => by rw [addSig_ne (by omega)]; exact inv.fresh L2 h2, ?_, ?_⟩
  · intro L2 b o s h
    by_cases h2 : L2 = L
    · subst h2
      rw [addSig_self] at h
      obtain ⟨rfl, rfl, rfl⟩ : b' = b ∧ o' = o ∧ sz = s := by simpa using h
      exact ⟨hb, hb'⟩
    · rw [addSig_ne h2] at h
      have := inv.own L2 b o s h
      exact ⟨this.1, by omega⟩
  · intro L1 L2 b o1 s1 o2 s2 h1 h2
    by_cases e1 : L1 = L <;> by_cases e2 : L2 = L
    · omega
    · subst e1
      rw [addSig_self] at h1
      rw [addSig_ne e2] at h2
      obtain ⟨rfl, _⟩ : b' = b ∧ _ := by simpa using h1
      exact (hfar L2 _ _ e2 h2).elim
    · subst e2
      rw [addSig_self] at h2
      rw [addSig_ne e1] at h1
      obtain ⟨rfl, _⟩ : b' = b ∧ _ := by simpa using h2
      exact (hfar L1 _ _ e1 h1).elim
    · rw [addSig_ne e1] at h1
      rw [addSig_ne e2] at h2
      exact inv.inj L1 L2 b _ _ _ _ h1 h2

theorem joined_M {L sz b' o' cap' : Nat} {es es2 : List (List V)} {vs vs2 : List Value} {σ' : Sig} {w' : World} {cur' : Array Value} {et : TypeId} {fr : Nat × Nat} (hk : Keeps (some L) base σ w σ' w') (hσ : σ' L = some (b', o', sz))
    (hh : w'.heap[b']? = some (.cells cur' et fr)) (hnf : Nf fr cur'.size) (hroom : o' + cap' * sz ≤ cur'.size) (hc1 : es.length + es2.length ≤ cap') (hc2 : cap' ≤ maxLen) (h3 : ∀ e ∈ es, e.length = sz) (h3' : ∀ e ∈ es2, e.length = sz)
    (hl : vs.length = es.length * sz) (hcur : ∀ (q : Nat) u, (vs ++ vs2)[q]? = some u → cur'[o' + q]? = some u)
    (hm : ∀ (j : Nat) e (c : Nat) y, es[j]? = some e → e[c]? = some y → ∃ u, vs[j * sz + c]? = some u ∧ M base σ w y u) (hm2 : ∀ (j : Nat) e (c : Nat) y, es2[j]? = some e → e[c]? = some y → ∃ u, vs2[j * sz + c]? = some u ∧ M base σ w y u) :
    M base σ' w' (.sl L sz 0 (V.killLL L (es ++ es2))) (.slice (some ⟨b', o', none⟩) (es.length + es2.length) cap') := by
  have hlen : (V.killLL L (es ++ es2)).length = es.length + es2.length := by unfold V.killLL; rw [travLL_len, List.length_append]
  have hall : ∀ (j : Nat) e (c : Nat) y, (V.killLL L (es ++ es2))[j]? = some e → e[c]? = some y → ∃ u, (vs ++ vs2)[j * sz + c]? = some u ∧ M base σ' w' y u := by
    intro j e c y hj hc
    unfold V.killLL at hj
    rw [travLL_get] at hj
    obtain ⟨e1, he1, rfl⟩ := Option.map_eq_some_iff.1 hj
    rw [travL_get] at hc
    obtain ⟨y1, hy1, rfl⟩ := Option.map_eq_some_iff.1 hc
    have hcl : c < sz := by
      have := (List.getElem?_eq_some_iff.1 hy1).1
      rcases List.mem_append.1 (List.mem_of_getElem? he1) with h | h
      · rw [h3 _ h] at this; exact this
      · rw [h3' _ h] at this; exact this
    rw [List.getElem?_append] at he1
    split at he1
    · rename_i hjl
      obtain ⟨u, hu, hmu⟩ := hm j e1 c y1 he1 hy1
      refine ⟨u, ?_, hmu.kill hk⟩
      rw [List.getElem?_append_left]
      · exact hu
      · exact (List.getElem?_eq_some_iff.1 hu).1
    · rename_i hjl
      obtain ⟨u, hu, hmu⟩ := hm2 (j - es.length) e1 c y1 he1 hy1
      refine ⟨u, ?_, hmu.kill hk⟩
      have hge : vs.length ≤ j * sz + c := by
        rw [hl]
        have : es.length * sz ≤ j * sz := Nat.mul_le_mul_right _ (by omega)
        omega
      rw [List.getElem?_append_right hge]
      have : j * sz + c - vs.length = (j - es.length) * sz + c := by
        rw [hl, Nat.sub_mul]
        have : es.length * sz ≤ j * sz := Nat.mul_le_mul_right _ (by omega)
        omega
      rw [this]
      exact hu
  rw [← hlen]
  refine .sl L sz 0 _ _ cap' (fun j c => ((vs ++ vs2)[j * sz + c]?).getD undef) (by omega) hc2 ?_ (.inr (.inr ⟨_, rfl, .inr ⟨b', o', cur', et, fr, hσ, by simp, hh, hnf, by omega⟩⟩)) ?_ ?_
  · intro e he
    unfold V.killLL at he
    rw [travLL_eq] at he
    obtain ⟨e1, he1, rfl⟩ := List.mem_map.1 he
    rw [travL_len]
    rcases List.mem_append.1 he1 with h | h
    · exact h3 _ h
    · exact h3' _ h
  · intro ad hA j e c y hj hc
    obtain rfl := Option.some.inj hA
    obtain ⟨u, hu, _⟩ := hall j e c y hj hc
    rw [add_none, cell_at hh, hcur _ u hu, hu]
    rfl
  · intro j e c y hj hc
    obtain ⟨u, hu, hmu⟩ := hall j e c y hj hc
    simp only [hu, Option.getD_some]
    exact hmu

theorem ok_append {T e : TypeId} {i : TInfo} {s x : Operand} {L off : Nat} {es es2 : List (List V)} {s1 b1 : Nat} {z1 : List V} (hti : TabOk P ti) (hT : ti T = some ⟨.slice e, s1, b1, z1⟩) (he : ti e = some i) (hi : 0 < i.size) (hz : i.zero.length = i.size)
    (ho : o.op = .call ⟨.builtin .append, #[s, x], #[T, T]⟩) (hs : opnd t s = .sl L i.size off es) (hx : (∃ L2 off2, opnd t x = .sl L2 i.size off2 es2) ∨ (es2 = [] ∧ ∃ q, opnd t x = .nil q)) (hL : L ≠ 0) (hLn : L < n)
    (hb : (es.length + es2.length) * i.bytes ≤ 140737488355328) (hb2 : es.length + es2.length ≤ 9223372036854775807) (hone : ∀ e ∈ es2, ∀ y ∈ e, V.one y = true) :
    OpOk P o t h n (putV (V.killL L t) o.dst (.sl L i.size 0 (V.killLL L (es ++ es2)))) (V.killL L h) n := by
  intro base w0 hv σ a w g K Q hK
  have hms := opnd_M g.ts s
  rw [hs] at hms
  have hmx := opnd_M g.ts x
  have hund := und_slice (hti _ _ hT) rfl
  obtain ⟨inf, hinf, hinfs, hinfb, hinfz⟩ := (hti _ _ he).inf
  have hzne : i.zero ≠ [] := fun hz' => by rw [hz'] at hz; simp at hz; omega
  obtain ⟨zv, hzv, hzok⟩ := hinfz hzne
  have hzs : zv.cells.size = i.size := by have := (zerosOk_Ms (base := base) (σ := σ) (w := w) hzok).1; simp at this; omega
  obtain ⟨A, cap, vs, hsv, hc1, hc2, hel, hat, hvl, hvc, hvm, _⟩ := sl_cells hms
  -- what is appended
  have hxx : ∃ (A2 : Option Addr) (cap2 : Nat) (vs2 : List Value), a.eval x = .slice A2 es2.length cap2 ∧ vs2.length = es2.length * i.size ∧ (∀ ad, A2 = some ad → ∀ (j : Nat) u, vs2[j]? = some u → w.cell? (ad.add j) = some u) ∧ (A2 = none → es2 = []) ∧
      (∀ e ∈ es2, e.length = i.size) ∧ (∀ (j : Nat) e (c : Nat) y, es2[j]? = some e → e[c]? = some y → ∃ u, vs2[j * i.size + c]? = some u ∧ M base σ w y u) ∧ (∀ u ∈ vs2, u.oneCell' = true) := by
    rcases hx with ⟨L2, off2, hx⟩ | ⟨rfl, q, hx⟩
    · rw [hx] at hmx
      obtain ⟨A2, cap2, vs2, h1, h2, _, h3, h4, h5, h6, h7, h8⟩ := sl_cells hmx
      refine ⟨A2, cap2, vs2, h1, h5, h6, ?_, h3, h7, h8 hone⟩
      intro hn
      rcases h4 with ⟨_, h⟩ | h | ⟨ad, hA, _⟩
      · exact h
      · exact List.eq_nil_of_length_eq_zero (by omega)
      · rw [hn] at hA; cases hA
    · rw [hx] at hmx
      generalize a.eval x = xv at hmx
      cases hmx
      exact ⟨_, 0, [], rfl, by simp, by simp, fun _ => rfl, by simp, by simp, by simp⟩
  obtain ⟨A2, cap2, vs2, hxv, hvl2, hvc2, hA2, hel2, hvm2, hvone⟩ := hxx
  have hrun0 : (execOp a.eval o).run P w = ((Builtin.append_ #[T, T] o.type #[.slice A es.length cap, .slice A2 es2.length cap2]).run P w).andThen (fun v => (pure (Next.value v) : Sem Next).run P) := by
    simp only [execOp, ho, resolve, invoke, builtin, Sem.run_bind, Sem.run_pure, Result.andThen_ok]
    have hargs : (#[s, x] : Array Operand).map a.eval = #[.slice A es.length cap, .slice A2 es2.length cap2] := by simp [hsv, hxv]
    rw [hargs]
    generalize (Builtin.append_ #[T, T] o.type #[.slice A es.length cap, .slice A2 es2.length cap2]).run P w = R
    cases R <;> rfl
  have finish : ∀ (σ' : Sig) (w' : World) (v' : Value), (Builtin.append_ #[T, T] o.type #[.slice A es.length cap, .slice A2 es2.length cap2]).run P w = .ok v' w' → Keeps (some L) base σ w σ' w' → M base σ' w' (.sl L i.size 0 (V.killLL L (es ++ es2))) v' →
      Inv base σ' w' n → Below base.lim w0 w' → o.wp P a w K Q := by
    intro σ' w' v' hr hk hm inv bel
    unfold Oper.wp
    rw [hrun0, hr]
    exact hK σ' _ _ ⟨(g.ts.kill hk).put _ hm, g.hs.kill hk, by cases o.dst <;> exact g.dfr, bel, inv, g.gk⟩
  by_cases hroom : es.length + es2.length ≤ cap
  · -- there is room
    rcases hat with ⟨h0, _⟩ | hcap | ⟨ad, rfl, hat⟩
    · exact absurd h0 hL
    · -- nothing at all
      have e1 : es = [] := List.eq_nil_of_length_eq_zero (by omega)
      have e2 : es2 = [] := List.eq_nil_of_length_eq_zero (by omega)
      subst e1 e2
      subst hcap
      have hnews : vs2 = [] := List.eq_nil_of_length_eq_zero (by simpa using hvl2)
      subst hnews
      have hf : (Builtin.firstCells inf.size 0 (.slice A2 0 cap2)).run P w = .ok #[] w := by
        cases A2 with
        | none => simp [Builtin.firstCells]
        | some ad2 => simpa using run_firstCells_some (P := P) w inf.size 0 ad2 0 cap2 [] (by simp) (by simp)
      have hr : (Builtin.append_ #[T, T] o.type #[.slice A ([] : List (List V)).length 0, .slice A2 ([] : List (List V)).length cap2]).run P w = .ok (.slice A 0 0) w := by
        cases A with
        | none => simp [Builtin.append_, run_underlying hund, sizeOf, typeInfo, hinf, Builtin.lenOf, hf]
        | some ad => simp [Builtin.append_, run_underlying hund, sizeOf, typeInfo, hinf, Builtin.lenOf, hf, storeCells]
      refine finish σ w _ hr ⟨fun _ h => ⟨h, rfl⟩, fun _ _ _ _ _ h => ⟨h, rfl⟩⟩ ?_ g.inv g.bel
      exact .sl L i.size 0 [] A 0 (fun _ _ => undef) (Nat.le_refl _) (Nat.zero_le _) (by simp) (.inr (.inl rfl)) (by simp) (by simp)
    · rcases hat with ⟨h0, _⟩ | ⟨b, oo, cur, et, fr, hσ, rfl, hh, hnf, hrm⟩
      · exact absurd h0 hL
      · have hmul : (es.length + es2.length) * i.size ≤ cap * i.size := Nat.mul_le_mul_right _ hroom
        rw [Nat.add_mul] at hmul
        obtain ⟨w', cur', hst, hb', hsize, hcur, hoth, hos, htape, hout, hhs⟩ := storeCells_run (P := P) b (oo + off * i.size + es.length * i.size) et fr vs2 0 cur w hh hnf (by omega) hvone
        rw [Nat.add_zero] at hcur
        have hf : (Builtin.firstCells inf.size es2.length (.slice A2 es2.length cap2)).run P w = .ok vs2.toArray w := by
          cases A2 with
          | none =>
            have : es2 = [] := hA2 rfl
            subst this
            have hnews : vs2 = [] := List.eq_nil_of_length_eq_zero (by simpa using hvl2)
            subst hnews
            simp [Builtin.firstCells]
          | some ad2 => exact run_firstCells_some (P := P) w inf.size es2.length ad2 es2.length cap2 vs2 (by rw [hinfs]; exact hvl2) (hvc2 ad2 rfl)
        have hr : (Builtin.append_ #[T, T] o.type #[.slice (some ⟨b, oo + off * i.size, none⟩) es.length cap, .slice A2 es2.length cap2]).run P w = .ok (.slice (some ⟨b, oo + off * i.size, none⟩) (es.length + es2.length) cap) w' := by
          have hadd : (⟨b, oo + off * i.size, none⟩ : Addr).add (es.length * inf.size) = ⟨b, oo + off * i.size + es.length * i.size, none⟩ := by rw [add_none, hinfs]
          simp [Builtin.append_, run_underlying hund, sizeOf, typeInfo, hinf, Builtin.lenOf, hroom, hf, hadd, hst]
        have hbase := g.inv.own L b oo _ hσ
        have hfar : ∀ L2 o2 s2, L2 ≠ L → σ L2 = some (b, o2, s2) → False := fun L2 o2 s2 hne h2 => hne (g.inv.inj L2 L b _ _ _ _ h2 hσ)
        have hk : Keeps (some L) base σ w (addSig σ L b (oo + off * i.size) i.size) w' := by
          refine ⟨fun k hk' => ⟨Old.addSig hk' (fun e => hk'.2.1 L b oo _ hσ e) (by omega), hoth k (Ne.symm (hk'.2.1 L b oo _ hσ))⟩, fun L2 b2 o2 s2 hne h2 => ⟨?_, hoth b2 ?_⟩⟩
          · rw [addSig_ne (fun e => hne (by rw [e]))]; exact h2
          · rintro rfl
            exact hfar L2 _ _ (fun e => hne (by rw [e])) h2
        refine finish _ w' _ hr hk ?_ (addSig_inv g.inv hL hLn (by omega) hbase.1 (by omega) hfar) ?_
        · refine joined_M (vs := vs) (vs2 := vs2) hk (addSig_self _ _ _ _ _) hb' (by rw [hsize]; exact hnf) (by rw [hsize]; exact hrm) hroom hc2 hel hel2 hvl ?_ hvm hvm2
          intro q u hu
          rw [hcur]
          rw [List.getElem?_append] at hu
          split at hu
          · rename_i hq
            rw [if_neg (by omega)]
            have := hvc _ rfl q u hu
            rw [add_none, cell_at hh] at this
            exact this
          · rename_i hq
            have hq2 := (List.getElem?_eq_some_iff.1 hu).1
            rw [if_pos (by omega)]
            rw [show oo + off * i.size + q - (oo + off * i.size + es.length * i.size) = q - vs.length by omega]
            exact hu
        · exact ⟨hos.trans g.bel.os, htape.trans g.bel.tape, hout.trans g.bel.output, by rw [hhs]; exact g.bel.size, fun k hk => (hoth k (by omega)).trans (g.bel.block k hk)⟩
  · -- it grows
    have hpos : 0 < es2.length := by omega
    obtain ⟨ad2, rfl⟩ : ∃ ad2, A2 = some ad2 := by
      cases A2 with
      | none => rw [hA2 rfl] at hpos; simp at hpos
      | some ad2 => exact ⟨ad2, rfl⟩
    have hfits : Builtin.nextslicecap (es.length + es2.length) cap * inf.bytes ≤ 281474976710656 := by
      rw [hinfb]; exact growslice_fits (by omega) hb
    have hr : ∃ cap' cs, (Builtin.append_ #[T, T] o.type #[.slice A es.length cap, .slice (some ad2) es2.length cap2]).run P w = .ok (.slice (some ⟨w.heap.size, 0, none⟩) (es.length + es2.length) cap') (w.drew.alloc (.cells cs e)) ∧
        es.length + es2.length ≤ cap' ∧ cap' ≤ maxLen ∧ cap' * i.size ≤ cs.size ∧ ∀ (q : Nat) u, (vs ++ vs2)[q]? = some u → cs[q]? = some u := by
      have hge := grownCap_ge w (es.length + es2.length) cap e
      have hcells : ∀ (N : Nat), N * i.size ≤ ((vs ++ vs2).toArray ++ Builtin.zeroCells zv.cells (N - (es.length + es2.length))).size ∧ ∀ (q : Nat) u, (vs ++ vs2)[q]? = some u → ((vs ++ vs2).toArray ++ Builtin.zeroCells zv.cells (N - (es.length + es2.length)))[q]? = some u := by
        intro N
        refine ⟨?_, fun q u hu => ?_⟩
        · have hz0 := size_zeroCells zv.cells (N - (es.length + es2.length))
          rw [hzs] at hz0
          simp only [Array.size_append, List.size_toArray, List.length_append, hvl, hvl2, hz0, ← Nat.add_mul]
          exact Nat.mul_le_mul_right _ (by omega)
        · have hlt := (List.getElem?_eq_some_iff.1 hu).1
          rw [Array.getElem?_append_left (by simpa using hlt)]
          simpa using hu
      cases A with
      | some ad =>
        have hr := run_append_grow (P := P) w T o.type e inf zv hund hinf hzv ad es.length cap vs (by rw [hinfs]; exact hvl) (hvc ad rfl) ad2 es2.length cap2 vs2 (by rw [hinfs]; exact hvl2) (hvc2 ad2 rfl) (by omega) (by omega) hfits
        rw [show vs.toArray ++ vs2.toArray = (vs ++ vs2).toArray by simp] at hr
        exact ⟨_, _, hr, hge, grownCap_le_maxLen w _ cap e (by unfold maxLen; omega), (hcells _).1, (hcells _).2⟩
      | none =>
        have hes : es = [] ∧ cap = 0 := by
          rcases hat with ⟨h0, _⟩ | h | ⟨ad, h, _⟩
          · exact absurd h0 hL
          · exact ⟨List.eq_nil_of_length_eq_zero (by omega), h⟩
          · cases h
        obtain ⟨rfl, rfl⟩ := hes
        have hvs : vs = [] := List.eq_nil_of_length_eq_zero (by simpa using hvl)
        subst hvs
        have h48 : es2.length * inf.bytes ≤ 281474976710656 := by rw [hinfb]; simp only [List.length_nil, Nat.zero_add] at hb; omega
        have hr := run_append_nil (P := P) w T o.type e inf zv hund hinf hzv ad2 es2.length cap2 vs2 (by rw [hinfs]; exact hvl2) (hvc2 ad2 rfl) hpos (by simp at hb2; omega) h48
        have hN := hcells (grownCap w es2.length 0 e)
        simp only [List.length_nil, Nat.zero_add, List.nil_append] at hN hge ⊢
        exact ⟨_, _, hr, hge, grownCap_le_maxLen w _ 0 e (by unfold maxLen; simp at hb2; omega), hN.1, hN.2⟩
    obtain ⟨cap', cs, hr, hcap1, hcap2, hsz, hcs⟩ := hr
    have hk : Keeps (some L) base σ w (addSig σ L w.heap.size 0 i.size) (w.drew.alloc (.cells cs e)) := by
      refine ⟨fun k hk' => ⟨Old.addSig hk' (fun e => by have := hk'.1; omega) (by simp), (Below.heap_alloc w.drew _ k hk'.1).trans rfl⟩, fun L2 b2 o2 s2 hne h2 => ⟨?_, (Below.heap_alloc w.drew _ b2 (g.inv.own L2 b2 o2 s2 h2).2).trans rfl⟩⟩
      rw [addSig_ne (fun e => hne (by rw [e]))]; exact h2
    have hh' : (w.drew.alloc (.cells cs e)).heap[w.heap.size]? = some (.cells cs e (0, 0)) := heap_alloc_new w.drew _
    have hsz' : (w.drew.alloc (.cells cs e)).heap.size = w.heap.size + 1 := by simp
    refine finish _ _ _ hr hk ?_ (addSig_inv g.inv hL hLn (by omega) g.inv.bs (by omega) ?_) ?_
    · refine joined_M (vs := vs) (vs2 := vs2) hk (addSig_self _ _ _ _ _) hh' (nf_zero _) (by omega) hcap1 hcap2 hel hel2 hvl (fun q u hu => by rw [Nat.zero_add]; exact hcs q u hu) hvm hvm2
    · intro L2 o2 s2 _ h2
      have := (g.inv.own L2 _ _ _ h2).2
      omega
    · exact (g.bel.drew).alloc (by exact g.inv.bs) _

theorem ok_makeSlice {T e : TypeId} {i : TInfo} {l c : Operand} {k k' : IntKind} {a b : Int} {s1 b1 : Nat} {z1 : List V} (hti : TabOk P ti) (hT : ti T = some ⟨.slice e, s1, b1, z1⟩) (he : ti e = some i) (hi : 0 < i.size) (hz : i.zero.length = i.size)
    (ho : o.op = .makeSlice T l c) (hl : opnd t l = .int k a) (hc : opnd t c = .int k' b) (h0 : 0 ≤ a) (hab : a ≤ b) (hb : b ≤ 4611686018427387904) (hbb : (i.bytes : Int) * b ≤ 281474976710656) :
    OpS P o t n (.sl n i.size 0 (List.replicate a.toNat i.zero)) 1 := by
  refine OpS.newSlice rfl (fun e he => by rw [List.eq_of_mem_replicate he]; exact hz) fun base σ w ρ hρ => ?_
  have hml := hρ l
  rw [hl] at hml
  have hmc := hρ c
  rw [hc] at hmc
  have hlv : ρ l = .int k a := by generalize ρ l = v at hml; cases hml; rfl
  have hcv : ρ c = .int k' b := by generalize ρ c = v at hmc; cases hmc; rfl
  have hund := und_slice (hti _ _ hT) rfl
  obtain ⟨inf, hinf, hinfs, hinfb, hinfz⟩ := (hti _ _ he).inf
  have hzne : i.zero ≠ [] := fun hz' => by rw [hz'] at hz; simp at hz; omega
  obtain ⟨zv, hzv, hzok⟩ := hinfz hzne
  have hw1 : IntKind.i64.wrap a = a := by rw [IntKind.wrap_i64]; omega
  have hw2 : IntKind.i64.wrap b = b := by rw [IntKind.wrap_i64]; omega
  have hrow := rows_zero (base := base) (σ := σ) (w := w) hzok hz b.toNat
  refine ⟨(Array.range (b.toNat * i.size)).map (zv.cells[· % zv.cells.size]!), e, (0, 0), 0, b.toNat, ?_, nf_zero _, by rw [List.length_replicate]; omega, by unfold maxLen; omega, by simp, ?_⟩
  · have ht1 : ¬ (b < 0) := by omega
    have ht2 : ¬ ((inf.bytes : Int) * b > 281474976710656) := by rw [hinfb]; omega
    have ht3 : ¬ (a < 0) := by omega
    have ht4 : ¬ (a > b) := by omega
    simp only [execOp, ho, hlv, hcv, Instr.makeSlice, Sem.run_bind, run_underlying hund, Result.andThen_ok, asInt, asIntOf, Sem.run_pure, typeInfo, run_program, hinf, hw1, hw2]
    have hcond : (decide (b < 0) || decide ((inf.bytes : Int) * b > 2 ^ 48)) = false := by
      simp only [Bool.or_eq_false_iff, decide_eq_false_iff_not]
      exact ⟨ht1, by rw [show (2 : Int) ^ 48 = 281474976710656 from rfl]; exact ht2⟩
    rw [if_neg (by simp only [hcond]; simp; omega)]
    by_cases hzero : b.toNat * i.size = 0
    · have : (Array.range (b.toNat * i.size)).map (zv.cells[· % zv.cells.size]!) = #[] := by rw [hzero]; exact Array.eq_empty_of_size_eq_zero (by simp)
      have hr0 : ∀ f : Nat → Value, (Array.range 0).map f = #[] := fun f => Array.eq_empty_of_size_eq_zero (by simp)
      rw [this]
      simp only [Sem.run_bind, run_askRoom, Result.andThen_ok, sizeOf, typeInfo, run_program, hinf, Sem.run_pure, hinfs, hzero, if_true, newRow, run_newObj_alloc, List.length_replicate, hr0]
      rfl
    · simp only [Sem.run_bind, run_askRoom, Result.andThen_ok, sizeOf, typeInfo, run_program, hinf, Sem.run_pure, hinfs, hzero, if_false, zeroValue, hzv, newRow, run_newObj_alloc, List.length_replicate]
      rfl
  · intro j e' c' y hj hc'
    rw [List.getElem?_replicate] at hj
    split at hj
    · rename_i hlt
      refine hrow.2.2 j e' c' y ?_ hc'
      rw [List.getElem?_replicate, if_pos (by omega)]
      exact hj
    · cases hj
end
end Go.Proofs.YtliiphpbfambcaaGreatDoor.K

/- Calls: what a function promises, and how it is shown and used. Nothing here depends on the program. -/
namespace Go.Proofs.YtliiphpbfambcaaGreatDoor.K
open Go Go.RowKit

def OkCall (P : Program) (f : FuncId) (args h : List V) (n : Nat) (Q : V → List V → Nat → Prop) : Prop :=
  ∀ base w0 hv σ w vs, Inv base σ w n → Ms base σ w args vs → Ms base σ w h hv → Below base.lim w0 w → Gk base w0 →
    Calls P f vs.toArray w fun e w' => ∃ r h' n' σ' v, e = .returned v ∧ Q r h' n' ∧ M base σ' w' r v ∧ Ms base σ' w' h' hv ∧ Inv base σ' w' n' ∧ Below base.lim w0 w'
def bare (n : Nat) : Base := ⟨n, fun _ => False, fun _ h => h.elim⟩
def Pure (P : Program) (f : FuncId) (args : List V) (r : V) : Prop :=
  ∀ w vs, Gw w → Ms (bare w.heap.size) noSig w args vs → Calls P f vs.toArray w fun e w' => ∃ σ' v n', e = .returned v ∧ M (bare w.heap.size) σ' w' (V.tag 1 r) v ∧ Inv (bare w.heap.size) σ' w' n' ∧ Below w.heap.size w w'

theorem OkCall.mono {P : Program} {f : FuncId} {args h : List V} {n : Nat} {Q Q' : V → List V → Nat → Prop} (hc : OkCall P f args h n Q) (hq : ∀ r h n, Q r h n → Q' r h n) : OkCall P f args h n Q' :=
  fun base w0 hv σ w vs i1 i2 i3 i4 i5 => (hc base w0 hv σ w vs i1 i2 i3 i4 i5).mono fun _ _ ⟨r, h', n', σ', v, e, q, rest⟩ => ⟨r, h', n', σ', v, e, hq _ _ _ q, rest⟩

def resV (ti : Tab) (t : List V) : ResultVar → Option V
  | .tmp i => some (nth t i)
  | .cell p ty => match ti ty with | some i => loadV i (nth t p) | none => none
def resVs (ti : Tab) (t : List V) : List ResultVar → Option (List V)
  | [] => some []
  | r :: rs => match resV ti t r, resVs ti t rs with | some x, some xs => some (x :: xs) | _, _ => none
def packV : List V → V
  | [x] => x
  | xs => .tup xs

section
variable {P : Program} {ti : Tab} {base : Base} {σ : Sig} {w : World}
theorem resV_run (hti : TabOk P ti) {t : List V} {tmps : Array Value} (ht : Ms base σ w t tmps.toList) {r : ResultVar} {x : V} (hx : resV ti t r = some x) :
    ∃ v, (match r with | .tmp t => (pure (tmps.getD t undef) : Sem Value) | .cell a t => do loadVar t (← asAddr (tmps.getD a undef))).run P w = .ok v w ∧ M base σ w x v := by
  have hop : ∀ i, M base σ w (nth t i) (tmps.getD i undef) := fun i => opnd_M (a := ⟨tmps, []⟩) ht (.tmp i)
  cases r with
  | tmp i =>
    obtain rfl := Option.some.inj hx
    exact ⟨_, rfl, hop i⟩
  | cell p ty =>
    simp only [resV] at hx
    split at hx
    · rename_i i hi
      obtain ⟨ad, u, h1, h2, h3⟩ := load_M (hti _ _ hi) (hop p) hx
      refine ⟨u, ?_, h3⟩
      simp only [h1, asAddr, Sem.run_bind, Sem.run_pure, Result.andThen_ok, h2]
    · cases hx
theorem resVs_run (hti : TabOk P ti) {t : List V} {tmps : Array Value} (ht : Ms base σ w t tmps.toList) : ∀ {rs : List ResultVar} {xs : List V}, resVs ti t rs = some xs →
    ∃ vs : List Value, (rs.mapM (m := Sem) fun r => match r with | .tmp t => pure (tmps.getD t undef) | .cell a t => do loadVar t (← asAddr (tmps.getD a undef))).run P w = .ok vs w ∧ Ms base σ w xs vs
  | [], xs, h => by obtain rfl := Option.some.inj h; exact ⟨[], rfl, rfl, by simp⟩
  | r :: rs, xs, h => by
    simp only [resVs] at h
    split at h
    · rename_i x xs' h1 h2
      obtain rfl := Option.some.inj h
      obtain ⟨v, hv, hm⟩ := resV_run hti ht h1
      obtain ⟨vs, hvs, hms⟩ := resVs_run hti ht h2
      refine ⟨v :: vs, ?_, by simp [hms.1], fun i y u hy hu => ?_⟩
      · rw [List.mapM_cons]
        simp only [Sem.run_bind]
        rw [hv]
        simp only [Result.andThen_ok]
        rw [hvs]
        rfl
      · cases i with
        | zero => obtain rfl := Option.some.inj hy; obtain rfl := Option.some.inj hu; exact hm
        | succ i => exact hms.2 i y u hy hu
    · cases h
theorem results_run (hti : TabOk P ti) {t : List V} {tmps : Array Value} (ht : Ms base σ w t tmps.toList) {fn : Func} {xs : List V} (hx : resVs ti t fn.results.toList = some xs) :
    ∃ v, (results fn tmps).run P w = .ok v w ∧ M base σ w (packV xs) v := by
  obtain ⟨vs, h1, h2⟩ := resVs_run hti ht hx
  refine ⟨if h : vs.toArray.size = 1 then vs.toArray[0] else .tuple vs.toArray, ?_, ?_⟩
  · unfold results
    rw [Array.mapM_eq_mapM_toList]
    simp only [Sem.run_bind, Sem.run_map]
    exact congrArg (fun R : Result (List Value) => (R.andThen fun a w' => Result.ok a.toArray w').andThen fun a w' => Sem.run P (pure (if h : a.size = 1 then a[0] else Value.tuple a)) w') h1
  · cases xs with
    | nil =>
      have : vs = [] := List.eq_nil_of_length_eq_zero (by simpa using h2.1.symm)
      subst this
      exact .tup [] [] rfl (by simp)
    | cons x xs =>
      cases xs with
      | nil =>
        obtain ⟨v, rfl⟩ : ∃ v, vs = [v] := by
          have := h2.1
          match vs, this with
          | [v], _ => exact ⟨v, rfl⟩
        exact h2.2 0 x v rfl rfl
      | cons y xs =>
        have hl : ¬ vs.toArray.size = 1 := by have := h2.1; simp at this ⊢; omega
        rw [dif_neg hl]
        exact .tup _ _ h2.1 h2.2

def retQ (ti : Tab) (fn : Func) (Q : V → List V → Nat → Prop) : Exit → List V → List V → Nat → Prop :=
  fun e t h n => (e = .normal ∨ e = .ret) ∧ ∃ xs, resVs ti t fn.results.toList = some xs ∧ Q (packV xs) h n

theorem OkCall.enter (hti : TabOk P ti) {f : FuncId} {fn : Func} {c : Code} {args h : List V} {n : Nat} {Q : V → List V → Nat → Prop} (hf : P.funcs[f]? = some fn) (hb : fn.body = some c)
    (hk : Ok P c (args ++ List.replicate (fn.ntmps - args.length) .any) h n (retQ ti fn Q)) : OkCall P f args h n Q := by
  intro base w0 hv σ w vs inv hargs hh bel gk
  refine calls_of_wp hf hb ?_
  have hg : Good base w0 hv (args ++ List.replicate (fn.ntmps - args.length) .any) h n σ { tmps := vs.toArray ++ Array.replicate (fn.ntmps - vs.toArray.size) undef, defers := [] } w := by
    refine ⟨?_, hh, rfl, bel, inv, gk⟩
    have hl := hargs.1
    refine ⟨by simp [hl], fun i x u hx hu => ?_⟩
    simp only [Array.toList_append, Array.toList_replicate] at hu
    rw [List.getElem?_append] at hx hu
    rw [← hl] at hu
    split at hx
    · rename_i hi
      rw [if_pos hi] at hu
      exact hargs.2 i x u hx hu
    · have := List.eq_of_mem_replicate (List.mem_of_getElem? hx)
      subst this
      exact .any _
  refine wp_mono (hk base w0 hv σ _ w hg) ?_
  rintro e a' w' ⟨t', h', n', σ', ⟨he, xs, hxs, hq⟩, g'⟩
  obtain ⟨v, hr, hm⟩ := results_run hti g'.ts hxs
  rcases he with rfl | rfl
  · exact ⟨g'.dfr, v, hr, packV xs, h', n', σ', v, rfl, hq, hm, g'.hs, g'.inv, g'.bel⟩
  · exact ⟨g'.dfr, v, hr, packV xs, h', n', σ', v, rfl, hq, hm, g'.hs, g'.inv, g'.bel⟩

theorem Pure.of {f : FuncId} {args : List V} {r : V} (hd : V.dat r = true)
    (hc : OkCall P f args [] 1 fun x _ _ => V.erase x = V.erase r ∧ (∀ L ∈ V.labels x, L ≠ 0) ∧ (V.labels x).Nodup) : Pure P f args r := by
  intro w vs hgw hargs
  have inv : Inv (bare w.heap.size) noSig w 1 := ⟨Nat.le_refl _, Nat.le_refl _, rfl, fun _ _ => rfl, fun _ _ _ _ h => by simp [noSig] at h, fun _ _ _ _ _ _ _ h => by simp [noSig] at h⟩
  refine (hc (bare w.heap.size) w [] noSig w vs inv hargs ⟨rfl, by simp⟩ (Below.refl _ _) (hgw.k (Nat.le_refl _))).mono ?_
  rintro e w' ⟨x, h', n', σ', v, rfl, ⟨he, hz, hn⟩, hm, _, inv', bel⟩
  have hdt : V.dat (V.tag 1 r) = true := tag_dat r 1 hd
  obtain ⟨σ2, hsub, hm2⟩ := relabel inv'.inj (V.tag 1 r) x v hm (by rw [he, tag_erase r 1 hd]) hdt (fun h => hz 0 h rfl) (by rw [tag_labels, List.mem_range'_1]; omega) hn (by rw [tag_labels]; exact List.nodup_range')
  refine ⟨σ2, v, 1 + V.cnt r, rfl, hm2, ⟨inv'.bs, by omega, ?_, ?_, ?_, hsub.inj⟩, bel⟩
  · cases h0 : σ2 0 with
    | none => rfl
    | some p =>
      obtain ⟨b, o, s⟩ := p
      have := (hsub.dom 0 b o s h0).1
      rw [tag_labels, List.mem_range'_1] at this
      omega
  · intro L hL
    cases h0 : σ2 L with
    | none => rfl
    | some p =>
      obtain ⟨b, o, s⟩ := p
      have := (hsub.dom L b o s h0).1
      rw [tag_labels, List.mem_range'_1] at this
      omega
  · intro L b o s h
    obtain ⟨_, L1, _, o1, s1, h1⟩ := hsub.dom L b o s h
    exact inv'.own L1 b o1 s1 h1
end
end Go.Proofs.YtliiphpbfambcaaGreatDoor.K

/- Calls used: a pure function's call, any function's call, as an operation. Nothing here depends on the program. -/
namespace Go.Proofs.YtliiphpbfambcaaGreatDoor.K
open Go Go.RowKit

section
variable {P : Program}
theorem Pure.new {f : FuncId} {args : List V} {x : V} (hd : V.dat x = true) (hp : Pure P f (V.eraseL args) x) {base : Base} {σ : Sig} {w : World} {vs : List Value} {r : Nat} (hr : 1 ≤ r) (hgw : Gw w) (hargs : Ms base σ w args vs) :
    Calls P f vs.toArray w fun e w' => ∃ u, e = .returned u ∧ New base σ w r (V.cnt x) (V.tag r x) u w' := by
  refine (hp w vs hgw (hargs.erase fun _ h => h)).mono ?_
  rintro e w' ⟨σ1, v, n1, rfl, hm, inv1, bel1⟩
  obtain ⟨σ2, hsub, hm2⟩ := relabel inv1.inj (V.tag r x) (V.tag 1 x) v hm (by rw [tag_erase x 1 hd, tag_erase x r hd]) (tag_dat x r hd)
    (by rw [tag_labels, List.mem_range'_1]; omega) (by rw [tag_labels, List.mem_range'_1]; omega) (by rw [tag_labels]; exact List.nodup_range') (by rw [tag_labels]; exact List.nodup_range')
  have hdom : ∀ L b o s, σ2 L = some (b, o, s) → r ≤ L ∧ L < r + V.cnt x := by
    intro L b o s hL
    have := (hsub.dom L b o s hL).1
    rw [tag_labels, List.mem_range'_1] at this
    exact this
  let σ' : Sig := fun L => if r ≤ L ∧ L < r + V.cnt x then σ2 L else σ L
  have hin : ∀ L, r ≤ L → L < r + V.cnt x → σ' L = σ2 L := fun L h1 h2 => if_pos ⟨h1, h2⟩
  refine ⟨v, rfl, σ', bel1, fun L h => if_neg h, ?_, ?_, ?_⟩
  · intro L b o s h1 h2 hL
    rw [hin L h1 h2] at hL
    obtain ⟨_, L1, _, o1, s1, h1⟩ := hsub.dom L b o s hL
    exact inv1.own L1 b o1 s1 h1
  · intro L L' b o s o' s' h1 h2 h3 h4 hL hL'
    rw [hin L h1 h2] at hL
    rw [hin L' h3 h4] at hL'
    exact hsub.inj L L' b o s o' s' hL hL'
  · refine M.more (fun L b o s hL => ?_) (by rw [tag_labels, List.mem_range'_1]; omega) hm2
    obtain ⟨h1, h2⟩ := hdom L b o s hL
    rw [hin L h1 h2]
    exact hL

def Weak (P : Program) (f : FuncId) (args : List V) (r : V) : Prop :=
  ∀ base σ w vs, (∀ k, base.bad k → k < w.heap.size) → σ 0 = none → (∀ L b o s, σ L = some (b, o, s) → b < w.heap.size) → Gw w → Ms base σ w args vs → Calls P f vs.toArray w fun e w' => ∃ v, e = .returned v ∧ M base σ w' r v ∧ Below w.heap.size w w'

theorem Weak.of {f : FuncId} {args : List V} {r : V} (hz : ∀ L ∈ V.labelsL args, L = 0) (hc : OkCall P f args [] 1 fun x _ _ => V.erase x = r) : Weak P f args r := by
  intro base σ w vs hbad h0 hσ hgw hargs
  let base1 : Base := ⟨w.heap.size, fun k => base.bad k ∨ ∃ L b o s, σ L = some (b, o, s) ∧ b = k, fun k hk => by
    rcases hk with hk | ⟨L, b, o, s, hs, rfl⟩
    · exact hbad k hk
    · exact hσ L b o s hs⟩
  have inv : Inv base1 noSig w 1 := ⟨Nat.le_refl _, Nat.le_refl _, rfl, fun _ _ => rfl, fun _ _ _ _ h => by simp [noSig] at h, fun _ _ _ _ _ _ _ h => by simp [noSig] at h⟩
  have hargs1 : Ms base1 noSig w args vs := by
    refine ⟨hargs.1, fun i x u hx hu => (hargs.2 i x u hx hu).as fun L hL sz pos room ad hat => ?_⟩
    have hL0 := hz L (labels_in1 hx hL)
    rcases hat with ⟨_, hold⟩ | ⟨b, o, _, _, _, hs, _⟩
    · refine .inl ⟨hL0, hold.1, fun _ _ _ _ h => by simp [noSig] at h, ?_⟩
      rintro (hk | ⟨L, b, o, s, hs, hb⟩)
      · exact hold.2.2 hk
      · exact hold.2.1 L b o s hs hb
    · rw [hL0, h0] at hs; cases hs
  refine (hc base1 w [] noSig w vs inv hargs1 ⟨rfl, by simp⟩ (Below.refl _ _) (hgw.k (Nat.le_refl _))).mono ?_
  rintro e w' ⟨x, h', n', σ', v, rfl, rfl, hm, _, inv', bel⟩
  refine ⟨v, rfl, hm.erase fun L _ sz pos room ad hat => ?_, bel⟩
  rcases hat with ⟨_, hold⟩ | ⟨b, o, cur, e, fr, hs, rfl, hh, _⟩
  · exact ⟨hold.1, fun L b o s hs hb => hold.2.2 (.inr ⟨L, b, o, s, hs, hb⟩), fun hk => hold.2.2 (.inl hk)⟩
  · have hge := (inv'.own L b o sz hs).1
    have hge' : w.heap.size ≤ b := hge
    refine ⟨(inv'.own L b o sz hs).2, fun L2 b2 o2 s2 hs2 hb => ?_, fun hk => ?_⟩
    · have := hσ L2 b2 o2 s2 hs2
      have hb' : b2 = b := hb
      omega
    · have : b < w.heap.size := hbad b hk
      omega
theorem Pure.weak {f : FuncId} {args : List V} {r : V} (hd : V.dat r = true) (hp : Pure P f args r) (hargs : V.eraseL args = args) : Weak P f args (V.erase r) := by
  intro base σ w vs hbad h0 hσ hgw hm
  refine (hp w vs hgw (by have := hm.erase (base' := bare w.heap.size) (fun _ h => h); rw [hargs] at this; exact this)).mono ?_
  rintro e w' ⟨σ1, v, n1, rfl, hm1, inv1, bel1⟩
  refine ⟨v, rfl, ?_, bel1⟩
  rw [← tag_erase r 1 hd]
  refine hm1.erase fun L hL sz pos room ad hat => ?_
  rcases hat with ⟨h0, _⟩ | ⟨b, o, cur, e, fr, hs, rfl, hh, _⟩
  · rw [tag_labels, List.mem_range'_1] at hL; omega
  · have hge : w.heap.size ≤ b := (inv1.own L b o sz hs).1
    refine ⟨(inv1.own L b o sz hs).2, fun L2 b2 o2 s2 hs2 hb => ?_, fun hk => ?_⟩
    · have := hσ L2 b2 o2 s2 hs2
      have hb' : b2 = b := hb
      omega
    · have : b < w.heap.size := hbad b hk
      omega

def Callable (P : Program) (f : FuncId) : Prop := ∃ fn, P.funcs[f]? = some fn ∧ fn.body.isNone = false ∧ (fn.name == "runtime.NumGoroutine") = false

theorem Ms.append {base : Base} {σ : Sig} {w : World} {t1 t2 : List V} {l1 l2 : List Value} (h1 : Ms base σ w t1 l1) (h2 : Ms base σ w t2 l2) : Ms base σ w (t1 ++ t2) (l1 ++ l2) := by
  refine ⟨by simp [h1.1, h2.1], fun i x u hx hu => ?_⟩
  rw [List.getElem?_append] at hx hu
  rw [← h1.1] at hu
  split at hx
  · rename_i hi
    rw [if_pos hi] at hu
    exact h1.2 i x u hx hu
  · rename_i hi
    rw [if_neg hi] at hu
    exact h2.2 _ x u hx hu
theorem Ms.split {base : Base} {σ : Sig} {w : World} {t1 t2 : List V} {l1 l2 : List Value} (hl : t1.length = l1.length) (h : Ms base σ w (t1 ++ t2) (l1 ++ l2)) : Ms base σ w t1 l1 ∧ Ms base σ w t2 l2 := by
  have hl2 : t2.length = l2.length := by have := h.1; simp at this; omega
  refine ⟨⟨hl, fun i x u hx hu => h.2 i x u ?_ ?_⟩, ⟨hl2, fun i x u hx hu => h.2 (t1.length + i) x u ?_ ?_⟩⟩
  · rw [List.getElem?_append_left (List.getElem?_eq_some_iff.1 hx).1]; exact hx
  · rw [List.getElem?_append_left (List.getElem?_eq_some_iff.1 hu).1]; exact hu
  · rw [List.getElem?_append_right (by omega)]; simpa using hx
  · rw [List.getElem?_append_right (by omega), hl]; simpa using hu

variable {t h : List V} {n : Nat} {Q : Exit → List V → List V → Nat → Prop} {ops : Array Oper} {o : Oper} {l : List Oper}
theorem call_wp {fx : Operand} {args : Array Operand} {ts : Array TypeId} {f : FuncId} {caps : List V} (ho : o.op = .call ⟨.value fx, args, ts⟩) (hf : opnd t fx = .fn f caps) (hcl : Callable P f) {R : V → List V → Nat → Prop}
    (hc : OkCall P f (args.toList.map (opnd t) ++ caps) (t ++ h) n R) {base : Base} {w0 : World} {hv : List Value} {σ : Sig} {a : Act} {w : World} (g : Good base w0 hv t h n σ a w) (K : Act → World → Prop) (Q : Exit → Act → World → Prop)
    (hK : ∀ r t1 h1 n1 σ' a' w', R r (t1 ++ h1) n1 → t1.length = t.length → Good base w0 hv (putV t1 o.dst r) h1 n1 σ' a' w' → K a' w') : o.wp P a w K Q := by
  obtain ⟨fn, hfn, hbody, hname⟩ := hcl
  have hm := opnd_M g.ts fx
  rw [hf] at hm
  obtain ⟨cs, hcs, hfv⟩ : ∃ cs : List Value, Ms base σ w caps cs ∧ a.eval fx = .func (.func f) #[] cs.toArray := by
    generalize a.eval fx = fv at hm
    cases hm with
    | fn _ _ vs h1 h6 => exact ⟨vs, ⟨h1, h6⟩, rfl⟩
  have hargs : Ms base σ w (args.toList.map (opnd t)) (args.toList.map a.eval) := by
    refine ⟨by simp, fun i x u hx hu => ?_⟩
    rw [List.getElem?_map] at hx hu
    obtain ⟨q, hq, rfl⟩ := Option.map_eq_some_iff.1 hx
    rw [hq] at hu
    obtain rfl := Option.some.inj hu
    exact opnd_M g.ts q
  have hcall := hc base w0 (a.tmps.toList ++ hv) σ w (args.toList.map a.eval ++ cs) g.inv (hargs.append hcs) (g.ts.append g.hs) g.bel g.gk
  have hrun : (execOp a.eval o).run P w = .ok (.enter f (args.toList.map a.eval ++ cs).toArray) w := by
    have hargs' : (#[] ++ args.map a.eval ++ cs.toArray : Array Value) = (args.toList.map a.eval ++ cs).toArray := by
      apply Array.ext'
      simp
    simp only [execOp, ho, resolve, hfv, Deferred.ofValue, Sem.run_bind, Sem.run_pure, Result.andThen_ok, invoke, callFunc, run_program, hfn, hname, hbody, Bool.false_eq_true, if_false, hargs']
  unfold Oper.wp
  rw [hrun, Oper.upon_enter]
  refine hcall.mono ?_
  rintro e w' ⟨r, h', n', σ', v, rfl, hR, hm, hh', inv', bel'⟩
  have hlen : h'.length = t.length + h.length := by
    have h1 := hh'.1
    have h2 := g.ts.1
    have h3 := g.hs.1
    simp only [List.length_append] at h1
    omega
  have htl : (h'.take t.length).length = t.length := by rw [List.length_take]; omega
  have hsplit : h'.take t.length ++ h'.drop t.length = h' := List.take_append_drop _ _
  rw [← hsplit] at hh' hR
  obtain ⟨hg1, hg2⟩ := Ms.split (by rw [htl]; exact g.ts.1) hh'
  refine hK r _ _ n' σ' _ w' hR htl ⟨?_, hg2, by cases o.dst <;> exact g.dfr, bel', inv', g.gk⟩
  exact Ms.put (a := a) hg1 o.dst hm

theorem OkOps.call {fx : Operand} {args : Array Operand} {ts : Array TypeId} {f : FuncId} {caps : List V} (hg : o.guard = none) (ho : o.op = .call ⟨.value fx, args, ts⟩) (hf : opnd t fx = .fn f caps) (hcl : Callable P f)
    (hc : OkCall P f (args.toList.map (opnd t) ++ caps) (t ++ h) n fun r h' n' => ∀ t1 h1, h' = t1 ++ h1 → t1.length = t.length → OkOps P ops l (putV t1 o.dst r) h1 n' Q) : OkOps P ops (o :: l) t h n Q := by
  intro base w0 hv σ a w g
  unfold wpList
  rw [if_pos (wanted_none hg _)]
  exact .inl (call_wp ho hf hcl hc g _ _ fun r t1 h1 n1 σ' a' w' hR hl g' => hR t1 h1 rfl hl base w0 hv σ' a' w' g')
theorem OpOk.call {fx : Operand} {args : Array Operand} {ts : Array TypeId} {f : FuncId} {caps : List V} {r : V} {t1 h1 : List V} {n1 : Nat} (ho : o.op = .call ⟨.value fx, args, ts⟩) (hf : opnd t fx = .fn f caps) (hcl : Callable P f)
    (hl : t1.length = t.length) (hc : OkCall P f (args.toList.map (opnd t) ++ caps) (t ++ h) n fun r' h' n' => r' = r ∧ h' = t1 ++ h1 ∧ n' = n1) : OpOk P o t h n (putV t1 o.dst r) h1 n1 := by
  intro base w0 hv σ a w g K Q hK
  refine call_wp ho hf hcl hc g K Q ?_
  rintro r' t2 h2 n2 σ' a' w' ⟨rfl, he, rfl⟩ hl2 g'
  obtain ⟨rfl, rfl⟩ := List.append_inj he (by omega)
  exact hK σ' a' w' g'
theorem OpS.pure {fx : Operand} {args : Array Operand} {ts : Array TypeId} {f : FuncId} {caps : List V} {x : V} {r : Nat} (ho : o.op = .call ⟨.value fx, args, ts⟩) (hf : opnd t fx = .fn f caps) (hcl : Callable P f) (hd : V.dat x = true)
    (hp : Pure P f (V.eraseL (args.toList.map (opnd t) ++ caps)) x) : OpS P o t r (V.tag r x) (V.cnt x) := by
  intro base σ w ρ _ _ _ hρ hr _ hgw
  obtain ⟨fn, hfn, hbody, hname⟩ := hcl
  have hm := hρ fx
  rw [hf] at hm
  obtain ⟨cs, hcs, hfv⟩ : ∃ cs : List Value, Ms base σ w caps cs ∧ ρ fx = .func (.func f) #[] cs.toArray := by
    generalize ρ fx = fv at hm
    cases hm with
    | fn _ _ vs h1 h6 => exact ⟨vs, ⟨h1, h6⟩, rfl⟩
  have hargs : Ms base σ w (args.toList.map (opnd t)) (args.toList.map ρ) := by
    refine ⟨by simp, fun i x u hx hu => ?_⟩
    rw [List.getElem?_map] at hx hu
    obtain ⟨q, hq, rfl⟩ := Option.map_eq_some_iff.1 hx
    rw [hq] at hu
    obtain rfl := Option.some.inj hu
    exact hρ q
  refine .inr ⟨f, (args.toList.map ρ ++ cs).toArray, ?_, hp.new hd hr hgw (hargs.append hcs)⟩
  have hargs' : (#[] ++ args.map ρ ++ cs.toArray : Array Value) = (args.toList.map ρ ++ cs).toArray := by
    apply Array.ext'
    simp
  simp only [execOp, ho, resolve, hfv, Deferred.ofValue, Sem.run_bind, Sem.run_pure, Result.andThen_ok, invoke, callFunc, run_program, hfn, hname, hbody, Bool.false_eq_true, if_false, hargs']
theorem OpOk.pure {fx : Operand} {args : Array Operand} {ts : Array TypeId} {f : FuncId} {caps : List V} {r : V} (ho : o.op = .call ⟨.value fx, args, ts⟩) (hf : opnd t fx = .fn f caps) (hcl : Callable P f) (hd : V.dat r = true)
    (hp : Pure P f (V.eraseL (args.toList.map (opnd t) ++ caps)) r) : OpOk P o t h n (putV t o.dst (V.tag n r)) h (n + V.cnt r) :=
  (OpS.pure ho hf hcl hd hp).ok
theorem OpS.weak {fx : Operand} {args : Array Operand} {ts : Array TypeId} {f : FuncId} {caps : List V} {x : V} {r : Nat} (ho : o.op = .call ⟨.value fx, args, ts⟩) (hf : opnd t fx = .fn f caps) (hcl : Callable P f)
    (hp : Weak P f (args.toList.map (opnd t) ++ caps) x) : OpS P o t r x 0 := by
  intro base σ w ρ hb h0 hσ hρ _ _ hgw
  obtain ⟨fn, hfn, hbody, hname⟩ := hcl
  have hm := hρ fx
  rw [hf] at hm
  obtain ⟨cs, hcs, hfv⟩ : ∃ cs : List Value, Ms base σ w caps cs ∧ ρ fx = .func (.func f) #[] cs.toArray := by
    generalize ρ fx = fv at hm
    cases hm with
    | fn _ _ vs h1 h6 => exact ⟨vs, ⟨h1, h6⟩, rfl⟩
  have hargs : Ms base σ w (args.toList.map (opnd t)) (args.toList.map ρ) := by
    refine ⟨by simp, fun i x u hx hu => ?_⟩
    rw [List.getElem?_map] at hx hu
    obtain ⟨q, hq, rfl⟩ := Option.map_eq_some_iff.1 hx
    rw [hq] at hu
    obtain rfl := Option.some.inj hu
    exact hρ q
  refine .inr ⟨f, (args.toList.map ρ ++ cs).toArray, ?_, (hp base σ w _ (fun k hk => Nat.lt_of_lt_of_le (base.lt k hk) hb) h0 hσ hgw (hargs.append hcs)).mono ?_⟩
  · have hargs' : (#[] ++ args.map ρ ++ cs.toArray : Array Value) = (args.toList.map ρ ++ cs).toArray := by
      apply Array.ext'
      simp
    simp only [execOp, ho, resolve, hfv, Deferred.ofValue, Sem.run_bind, Sem.run_pure, Result.andThen_ok, invoke, callFunc, run_program, hfn, hname, hbody, Bool.false_eq_true, if_false, hargs']
  · rintro e w' ⟨v, rfl, hm, bel⟩
    exact ⟨v, rfl, σ, bel, fun _ _ => rfl, fun L _ _ _ h1 h2 => by omega, fun _ _ _ _ _ _ _ h1 h2 => by omega, hm⟩

def frz (k : Nat) (L : Nat) : Nat := if k ≤ L then 0 else L
def sigTo (k : Nat) (σ : Sig) : Sig := fun L => if k ≤ L then none else σ L
theorem Good.freeze {base : Base} {w0 : World} {hv : List Value} {σ : Sig} {a : Act} {w : World} (g : Good base w0 hv t h n σ a w) (k : Nat) (hk : 1 ≤ k) : Good base w0 hv (V.renL (frz k) t) (V.renL (frz k) h) k (sigTo k σ) a w := by
  have hsub : ∀ L b o s, sigTo k σ L = some (b, o, s) → L < k ∧ σ L = some (b, o, s) := by
    intro L b o s hs
    unfold sigTo at hs
    split at hs
    · cases hs
    · exact ⟨by omega, hs⟩
  have hat : ∀ L sz pos room ad, At base σ w L sz pos room ad → At base (sigTo k σ) w (frz k L) sz pos room ad := by
    intro L sz pos room ad hat
    rcases hat with ⟨rfl, hold⟩ | ⟨b, o, cur, e, fr, hs, rfl, hh, rest⟩
    · exact .inl ⟨by unfold frz; rw [if_neg (by omega)], hold.1, fun L b o s hs => hold.2.1 L b o s (hsub L b o s hs).2, hold.2.2⟩
    · unfold frz
      split
      · rename_i hkL
        have hown := g.inv.own L b o sz hs
        refine .inl ⟨rfl, hown.2, fun L2 b2 o2 s2 hs2 hb => ?_, fun hbad => ?_⟩
        · obtain ⟨h1, h2⟩ := hsub L2 b2 o2 s2 hs2
          have hb' : b2 = b := hb
          subst hb'
          have := g.inv.inj L2 L b2 _ _ _ _ h2 hs
          omega
        · have : b < base.lim := base.lt b hbad
          omega
      · rename_i hkL
        exact .inr ⟨b, o, cur, e, fr, by unfold sigTo; rw [if_neg hkL]; exact hs, rfl, hh, rest⟩
  have hms : ∀ {t : List V} {l : List Value}, Ms base σ w t l → Ms base (sigTo k σ) w (V.renL (frz k) t) l := by
    intro t l hm
    refine ⟨by unfold V.renL; rw [travL_len]; exact hm.1, fun i x u hx hu => ?_⟩
    unfold V.renL at hx
    rw [travL_get] at hx
    obtain ⟨x', hx', rfl⟩ := Option.map_eq_some_iff.1 hx
    exact (hm.2 i x' u hx' hu).ren (frz k) (fun L _ sz pos room ad h => hat L sz pos room ad h) (by unfold frz; rw [if_neg (by omega)])
  refine ⟨hms g.ts, hms g.hs, g.dfr, g.bel, ⟨g.inv.bs, hk, ?_, ?_, ?_, ?_⟩, g.gk⟩
  · unfold sigTo; rw [if_neg (by omega)]; exact g.inv.zero
  · intro L hL; unfold sigTo; rw [if_pos hL]
  · intro L b o s hs; exact g.inv.own L b o s (hsub L b o s hs).2
  · intro L L' b o s o' s' h1 h2; exact g.inv.inj L L' b o s o' s' (hsub _ _ _ _ h1).2 (hsub _ _ _ _ h2).2
theorem Ok.freeze {c : Code} (k : Nat) (hk : 1 ≤ k) (ho : Ok P c (V.renL (frz k) t) (V.renL (frz k) h) k Q) : Ok P c t h n Q :=
  fun base w0 hv _ a w g => ho base w0 hv _ a w (g.freeze k hk)
theorem OkOps.freeze (k : Nat) (hk : 1 ≤ k) (ho : OkOps P ops l (V.renL (frz k) t) (V.renL (frz k) h) k Q) : OkOps P ops l t h n Q :=
  fun base w0 hv _ a w g => ho base w0 hv _ a w (g.freeze k hk)
end
end Go.Proofs.YtliiphpbfambcaaGreatDoor.K
