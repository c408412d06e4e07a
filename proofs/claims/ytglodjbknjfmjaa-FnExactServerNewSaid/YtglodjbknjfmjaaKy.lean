/- Calls that turn memory of the callers' own. Nothing here depends on the program. -/
import Derived.Test.YtglodjbknjfmjaaKx
namespace Go.Proofs.Ytglodjbknjfmjaa.K
open Go Go.RowKit
set_option linter.unusedVariables false
set_option linter.unusedSimpArgs false
section
variable {P : Program} {ti : Tab} {t t' h h' : List V} {n n' c : Nat} {Q : Exit → List V → List V → Nat → Prop} {ops : Array Oper} {o : Oper} {l : List Oper} {X : V}
/-- A call that turns what is told of all values alike. -/
theorem OkOps.turn {fx : Operand} {args : Array Operand} {ts : Array TypeId} {f : FuncId} {caps as : List V} {U : V → V} {x : V} (c : Nat) (hg : o.guard = none) (ho : o.op = .call ⟨.value fx, args, ts⟩) (hf : opnd t fx = .fn f caps) (ha : args.toList.map (opnd t) ++ caps = as)
    (hcl : Callable P f) (hc : ∀ h, OkCall P f as h n fun r h1 n1 => r = x ∧ h1 = h.map U ∧ n1 = n + c) (hn : n + c = n') (ht : putV (t.map U) o.dst x = t') (hh : h.map U = h') (hk : OkOps P ops l t' h' n' Q) : OkOps P ops (o :: l) t h n Q := by
  refine OkOps.step hg (t' := t') (h' := h') (n' := n') ?_ hk
  rw [← ht, ← hh]
  refine OpOk.call ho hf hcl (by rw [List.length_map]) ?_
  rw [ha]
  refine (hc (t ++ h)).mono ?_
  rintro r h1 n1 ⟨rfl, rfl, rfl⟩
  exact ⟨rfl, by rw [List.map_append], hn⟩
end
/-- The elements of the array L from j on are es now. -/
def updA (L : Nat) : Nat → List (List V) → V → V
  | _, [], x => x
  | j, e :: es, x => updA L (j + 1) es (V.upd L j e x)
theorem updA_snoc (L : Nat) (e : List V) : ∀ (es : List (List V)) (j : Nat) (x : V), updA L j (es ++ [e]) x = V.upd L (j + es.length) e (updA L j es x)
  | [], j, x => rfl
  | a :: es, j, x => by
    show updA L (j + 1) (es ++ [e]) (V.upd L j a x) = _
    rw [updA_snoc L e es, List.length_cons, show j + 1 + es.length = j + (es.length + 1) by omega]
    rfl
theorem map_updA_snoc (L : Nat) (es : List (List V)) (e : List V) (h : List V) : V.updL L es.length e (h.map (updA L 0 es)) = h.map (updA L 0 (es ++ [e])) := by
  unfold V.updL
  rw [travL_eq, List.map_map]
  refine List.map_congr_left fun x _ => ?_
  rw [updA_snoc, Nat.zero_add]
  rfl
section
variable (L : Nat)
theorem updA_plain {x : V} (h : ∀ j e, V.upd L j e x = x) : ∀ (es : List (List V)) (j : Nat), updA L j es x = x
  | [], _ => rfl
  | e :: es, j => by show updA L (j + 1) es (V.upd L j e x) = x; rw [h]; exact updA_plain h es _
theorem map_id_updA (cs : List V) : cs.map (updA L 0 []) = cs := by
  rw [show updA L 0 [] = id from rfl, List.map_id]
theorem updA_agg : ∀ (es : List (List V)) (j : Nat) (cs : List V), updA L j es (.agg cs) = .agg (cs.map (updA L j es))
  | [], j, cs => by rw [show updA L j [] = id from rfl, List.map_id]; rfl
  | e :: es, j, cs => by
    show updA L (j + 1) es (.agg (V.travL _ _ _ cs)) = _
    rw [updA_agg es, travL_eq, List.map_map]; rfl
theorem updA_tup : ∀ (es : List (List V)) (j : Nat) (cs : List V), updA L j es (.tup cs) = .tup (cs.map (updA L j es))
  | [], j, cs => by rw [show updA L j [] = id from rfl, List.map_id]; rfl
  | e :: es, j, cs => by
    show updA L (j + 1) es (.tup (V.travL _ _ _ cs)) = _
    rw [updA_tup es, travL_eq, List.map_map]; rfl
theorem updA_ptr {M i o : Nat} (hM : M ≠ L) : ∀ (es : List (List V)) (j : Nat) (cs : List V), updA L j es (.ptr M i o cs) = .ptr M i o (cs.map (updA L j es))
  | [], j, cs => by rw [show updA L j [] = id from rfl, List.map_id]; rfl
  | e :: es, j, cs => by
    have : V.upd L j e (.ptr M i o cs) = .ptr M i o (cs.map (V.upd L j e)) := by
      show updP L j e M i o (V.travL _ _ _ cs) = _
      rw [updP, if_neg (fun h => hM h.1), travL_eq]; rfl
    show updA L (j + 1) es (V.upd L j e (.ptr M i o cs)) = _
    rw [this, updA_ptr hM es, List.map_map]; rfl
theorem updA_sl {M sz off : Nat} (hM : M ≠ L) : ∀ (es : List (List V)) (j : Nat) (cs : List (List V)), updA L j es (.sl M sz off cs) = .sl M sz off (cs.map (List.map (updA L j es)))
  | [], j, cs => by
    rw [show updA L j [] = id from rfl]
    have : (List.map id : List V → List V) = id := funext fun x => List.map_id x
    rw [this, List.map_id]; rfl
  | e :: es, j, cs => by
    have : V.upd L j e (.sl M sz off cs) = .sl M sz off (cs.map (List.map (V.upd L j e))) := by
      show updS L j e M sz off (V.travLL _ _ _ cs) = _
      rw [updS, if_neg (fun h => hM h.1), travLL_eq]
      congr 1
      refine List.map_congr_left fun x _ => ?_
      rw [travL_eq]; rfl
    show updA L (j + 1) es (V.upd L j e (.sl M sz off cs)) = _
    rw [this, updA_sl hM es, List.map_map]
    congr 1
    refine List.map_congr_left fun x _ => ?_
    show List.map _ (List.map _ x) = _
    rw [List.map_map]; rfl
end
mutual
theorem trav_plain (f0 : Nat → V) (fs : Nat → Nat → Nat → List (List V) → V) (fp : Nat → Nat → Nat → List V → V) (h0 : ∀ s, f0 s = .nil s) : ∀ x : V, V.labels x = [] → V.trav f0 fs fp x = x
  | .sl .., h => by simp [V.labels] at h
  | .ptr .., h => by simp [V.labels] at h
  | .fn f cs, h => by show V.fn f (V.travL f0 fs fp cs) = _; rw [travL_plain f0 fs fp h0 cs h]
  | .agg cs, h => by show V.agg (V.travL f0 fs fp cs) = _; rw [travL_plain f0 fs fp h0 cs h]
  | .tup cs, h => by show V.tup (V.travL f0 fs fp cs) = _; rw [travL_plain f0 fs fp h0 cs h]
  | .any, _ => rfl
  | .bool _, _ => rfl
  | .int .., _ => rfl
  | .str _, _ => rfl
  | .nil s, _ => h0 s
  | .nilP, _ => rfl
theorem travL_plain (f0 : Nat → V) (fs : Nat → Nat → Nat → List (List V) → V) (fp : Nat → Nat → Nat → List V → V) (h0 : ∀ s, f0 s = .nil s) : ∀ l : List V, V.labelsL l = [] → V.travL f0 fs fp l = l
  | [], _ => rfl
  | x :: l, h => by
    simp only [V.labelsL, List.append_eq_nil_iff] at h
    show V.trav f0 fs fp x :: V.travL f0 fs fp l = _
    rw [trav_plain f0 fs fp h0 x h.1, travL_plain f0 fs fp h0 l h.2]
end
theorem travLL_plain (f0 : Nat → V) (fs : Nat → Nat → Nat → List (List V) → V) (fp : Nat → Nat → Nat → List V → V) (h0 : ∀ s, f0 s = .nil s) : ∀ l : List (List V), V.labelsLL l = [] → V.travLL f0 fs fp l = l
  | [], _ => rfl
  | x :: l, h => by
    simp only [V.labelsLL, List.append_eq_nil_iff] at h
    show V.travL f0 fs fp x :: V.travLL f0 fs fp l = _
    rw [travL_plain f0 fs fp h0 x h.1, travLL_plain f0 fs fp h0 l h.2]
theorem upd_sl_self {L sz j : Nat} {e : List V} {es : List (List V)} (h : V.labelsLL es = []) : V.upd L j e (.sl L sz 0 es) = .sl L sz 0 (es.set j e) := by
  show updS L j e L sz 0 (V.travLL _ _ _ es) = _
  rw [travLL_plain _ _ _ (fun _ => rfl) es h, updS, if_pos ⟨rfl, Nat.zero_le _⟩, Nat.sub_zero]
theorem labelsLL_set {es : List (List V)} {e : List V} (h : V.labelsLL es = []) (he : V.labelsL e = []) : ∀ j, V.labelsLL (es.set j e) = [] := by
  induction es with
  | nil => intro j; rfl
  | cons x es ih =>
    simp only [V.labelsLL, List.append_eq_nil_iff] at h
    intro j
    cases j with
    | zero => simp [V.labelsLL, he, h.2]
    | succ j => simp [V.labelsLL, h.1, ih h.2 j]
theorem updA_self {L sz : Nat} : ∀ (es : List (List V)) (j : Nat) (es0 : List (List V)), V.labelsLL es0 = [] → V.labelsLL es = [] → j + es.length ≤ es0.length → updA L j es (.sl L sz 0 es0) = .sl L sz 0 (es0.take j ++ es ++ es0.drop (j + es.length))
  | [], j, es0, _, _, _ => by simp [updA]
  | e :: es, j, es0, h0, h1, h2 => by
    simp only [V.labelsLL, List.append_eq_nil_iff] at h1
    simp only [List.length_cons] at h2
    show updA L (j + 1) es (V.upd L j e (.sl L sz 0 es0)) = _
    rw [upd_sl_self h0, updA_self es (j + 1) _ (labelsLL_set h0 h1.1 j) h1.2 (by rw [List.length_set]; omega)]
    congr 1
    have hj : j < es0.length := by omega
    rw [List.take_succ_eq_append_getElem (by rw [List.length_set]; exact hj), List.getElem_set_self, List.take_set_of_le (Nat.le_refl _), List.drop_set_of_lt (by omega)]
    simp [Nat.add_assoc, Nat.add_comm, Nat.add_left_comm]
/-- All elements of an array are new. -/
abbrev fillA (L : Nat) (es : List (List V)) : V → V := updA L 0 es
theorem fillA_self {L sz : Nat} {es es0 : List (List V)} (h0 : V.labelsLL es0 = []) (h1 : V.labelsLL es = []) (h2 : es.length = es0.length) : fillA L es (.sl L sz 0 es0) = .sl L sz 0 es := by
  rw [fillA, updA_self es 0 es0 h0 h1 (by omega)]
  simp [h2]
theorem fillA_far {L M sz off : Nat} {es es0 : List (List V)} (hM : M ≠ L) (h0 : V.labelsLL es0 = []) : fillA L es (.sl M sz off es0) = .sl M sz off es0 := by
  refine updA_plain L (fun j e => ?_) es 0
  show updS L j e M sz off (V.travLL _ _ _ es0) = _
  rw [travLL_plain _ _ _ (fun _ => rfl) es0 h0, updS, if_neg (fun h => hM h.1)]
theorem kturn : (∀ (L : Nat) (es : List (List V)), fillA L es .any = .any) ∧ (∀ (L : Nat) (es : List (List V)) b, fillA L es (.bool b) = .bool b) ∧ (∀ (L : Nat) (es : List (List V)) k m, fillA L es (.int k m) = .int k m) ∧ (∀ (L : Nat) (es : List (List V)) s, fillA L es (.str s) = .str s) ∧ (∀ (L : Nat) (es : List (List V)) s, fillA L es (.nil s) = .nil s) ∧ (∀ (L : Nat) (es : List (List V)), fillA L es .nilP = .nilP) ∧
    (∀ (L : Nat) (es : List (List V)) cs, fillA L es (.agg cs) = .agg (cs.map (fillA L es))) ∧ (∀ (L : Nat) (es : List (List V)) cs, fillA L es (.tup cs) = .tup (cs.map (fillA L es))) :=
  ⟨fun L es => updA_plain L (fun _ _ => rfl) es 0, fun L es b => updA_plain L (fun _ _ => rfl) es 0, fun L es k m => updA_plain L (fun _ _ => rfl) es 0, fun L es s => updA_plain L (fun _ _ => rfl) es 0, fun L es s => updA_plain L (fun _ _ => rfl) es 0, fun L es => updA_plain L (fun _ _ => rfl) es 0,
    fun L es cs => updA_agg L es 0 cs, fun L es cs => updA_tup L es 0 cs⟩
theorem fillA_ptr {L M i o : Nat} {es : List (List V)} {cs : List V} (hM : M ≠ L) : fillA L es (.ptr M i o cs) = .ptr M i o (cs.map (fillA L es)) := updA_ptr L hM es 0 cs
end Go.Proofs.Ytglodjbknjfmjaa.K
