/- Calls that turn memory of the callers' own. Nothing here depends on the program. -/
import Derived.Test.YtliiphpbfambcaaGreatDoorG1
namespace Go.Proofs.YtliiphpbfambcaaGreatDoor.K
open Go Go.RowKit
set_option linter.unusedVariables false
set_option linter.unusedSimpArgs false
section
variable {P : Program} {ti : Tab} {t t' h h' : List V} {n n' c : Nat} {Q : Exit → List V → List V → Nat → Prop} {ops : Array Oper} {o : Oper} {l : List Oper} {X : V}
theorem OkOps.turn {fx : Operand} {args : Array Operand} {ts : Array TypeId} {f : FuncId} {caps ags : List V} {U : V → V} {x : V} (c : Nat) (hg : o.guard = none) (ho : o.op = .call ⟨.value fx, args, ts⟩) (hf : opnd t fx = .fn f caps) (ha : args.toList.map (opnd t) ++ caps = ags)
    (hcl : Callable P f) (hc : ∀ h, OkCall P f ags h n fun r h1 n1 => r = x ∧ h1 = h.map U ∧ n1 = n + c) (hn : n + c = n') (ht : putV (t.map U) o.dst x = t') (hh : h.map U = h') (hk : OkOps P ops l t' h' n' Q) : OkOps P ops (o :: l) t h n Q := by
  refine OkOps.step hg (t' := t') (h' := h') (n' := n') ?_ hk
  rw [← ht, ← hh]
  refine OpOk.call ho hf hcl (by rw [List.length_map]) ?_
  rw [ha]
  refine (hc (t ++ h)).mono ?_
  rintro r h1 n1 ⟨rfl, rfl, rfl⟩
  exact ⟨rfl, by rw [List.map_append], hn⟩
end
def updA (L : Nat) : Nat → List (List V) → V → V
  | _, [], x => x
  | j, e :: es, x => updA L (j + 1) es (V.upd L j e x)
section
variable (L : Nat)
theorem updA_plain {x : V} (h : ∀ j e, V.upd L j e x = x) : ∀ (es : List (List V)) (j : Nat), updA L j es x = x
  | [], _ => rfl
  | e :: es, j => by show updA L (j + 1) es (V.upd L j e x) = x; rw [h]; exact updA_plain h es _
theorem updA_agg : ∀ (es : List (List V)) (j : Nat) (cs : List V), updA L j es (.agg cs) = .agg (cs.map (updA L j es))
  | [], j, cs => by rw [show updA L j [] = id from rfl, List.map_id]; rfl
  | e :: es, j, cs => by
    show updA L (j + 1) es (.agg (V.travL _ _ _ cs)) = _
    rw [updA_agg es, travL_eq, List.map_map]; rfl
theorem updA_tup : ∀ (es : List (List V)) (j : Nat) (cs : List V), updA L j es (.tup cs) = .tup (cs.map (updA L j es))
  | [], j, cs => by rw [show updA L j [] = id from rfl, List.map_id]; rfl
  | e :: es, j, cs => by
    show updA L (j + 1) es (.tup (V.travL _ _ _ cs)) = _
    rw [updA_tup es, travL_eq, List.map_map]; rfl
theorem updA_ptr {M i o : Nat} (hM : M ≠ L) : ∀ (es : List (List V)) (j : Nat) (cs : List V), updA L j es (.ptr M i o cs) = .ptr M i o (cs.map (updA L j es))
  | [], j, cs => by rw [show updA L j [] = id from rfl, List.map_id]; rfl
  | e :: es, j, cs => by
    have : V.upd L j e (.ptr M i o cs) = .ptr M i o (cs.map (V.upd L j e)) := by
      show updP L j e M i o (V.travL _ _ _ cs) = _
      rw [updP, if_neg (fun h => hM h.1), travL_eq]; rfl
    show updA L (j + 1) es (V.upd L j e (.ptr M i o cs)) = _
    rw [this, updA_ptr hM es, List.map_map]; rfl
end
mutual
theorem trav_plain (f0 : Nat → V) (fs : Nat → Nat → Nat → List (List V) → V) (fp : Nat → Nat → Nat → List V → V) (h0 : ∀ s, f0 s = .nil s) : ∀ x : V, V.labels x = [] → V.trav f0 fs fp x = x
  | .sl .., h => by simp [V.labels] at h
  | .ptr .., h => by simp [V.labels] at h
  | .fn f cs, h => by show V.fn f (V.travL f0 fs fp cs) = _; rw [travL_plain f0 fs fp h0 cs h]
  | .agg cs, h => by show V.agg (V.travL f0 fs fp cs) = _; rw [travL_plain f0 fs fp h0 cs h]
  | .tup cs, h => by show V.tup (V.travL f0 fs fp cs) = _; rw [travL_plain f0 fs fp h0 cs h]
  | .any, _ => rfl
  | .bool _, _ => rfl
  | .int .., _ => rfl
  | .str _, _ => rfl
  | .nil s, _ => h0 s
  | .nilP, _ => rfl
theorem travL_plain (f0 : Nat → V) (fs : Nat → Nat → Nat → List (List V) → V) (fp : Nat → Nat → Nat → List V → V) (h0 : ∀ s, f0 s = .nil s) : ∀ l : List V, V.labelsL l = [] → V.travL f0 fs fp l = l
  | [], _ => rfl
  | x :: l, h => by
    simp only [V.labelsL, List.append_eq_nil_iff] at h
    show V.trav f0 fs fp x :: V.travL f0 fs fp l = _
    rw [trav_plain f0 fs fp h0 x h.1, travL_plain f0 fs fp h0 l h.2]
end
theorem travLL_plain (f0 : Nat → V) (fs : Nat → Nat → Nat → List (List V) → V) (fp : Nat → Nat → Nat → List V → V) (h0 : ∀ s, f0 s = .nil s) : ∀ l : List (List V), V.labelsLL l = [] → V.travLL f0 fs fp l = l
  | [], _ => rfl
  | x :: l, h => by
    simp only [V.labelsLL, List.append_eq_nil_iff] at h
    show V.travL f0 fs fp x :: V.travLL f0 fs fp l = _
    rw [travL_plain f0 fs fp h0 x h.1, travLL_plain f0 fs fp h0 l h.2]
theorem upd_sl_self {L sz j : Nat} {e : List V} {es : List (List V)} (h : V.labelsLL es = []) : V.upd L j e (.sl L sz 0 es) = .sl L sz 0 (es.set j e) := by
  show updS L j e L sz 0 (V.travLL _ _ _ es) = _
  rw [travLL_plain _ _ _ (fun _ => rfl) es h, updS, if_pos ⟨rfl, Nat.zero_le _⟩, Nat.sub_zero]
theorem labelsLL_set {es : List (List V)} {e : List V} (h : V.labelsLL es = []) (he : V.labelsL e = []) : ∀ j, V.labelsLL (es.set j e) = [] := by
  induction es with
  | nil => intro j; rfl
  | cons x es ih =>
    simp only [V.labelsLL, List.append_eq_nil_iff] at h
    intro j
    cases j with
    | zero => simp [V.labelsLL, he, h.2]
    | succ j => simp [V.labelsLL, h.1, ih h.2 j]
theorem updA_self {L sz : Nat} : ∀ (es : List (List V)) (j : Nat) (es0 : List (List V)), V.labelsLL es0 = [] → V.labelsLL es = [] → j + es.length ≤ es0.length → updA L j es (.sl L sz 0 es0) = .sl L sz 0 (es0.take j ++ es ++ es0.drop (j + es.length))
  | [], j, es0, _, _, _ => by simp [updA]
  | e :: es, j, es0, h0, h1, h2 => by
    simp only [V.labelsLL, List.append_eq_nil_iff] at h1
    simp only [List.length_cons] at h2
    show updA L (j + 1) es (V.upd L j e (.sl L sz 0 es0)) = _
    rw [upd_sl_self h0, updA_self es (j + 1) _ (labelsLL_set h0 h1.1 j) h1.2 (by rw [List.length_set]; omega)]
    congr 1
    have hj : j < es0.length := by omega
    rw [List.take_succ_eq_append_getElem (by rw [List.length_set]; exact hj), List.getElem_set_self, List.take_set_of_le (Nat.le_refl _), List.drop_set_of_lt (by omega)]
    simp [Nat.add_assoc, Nat.add_comm, Nat.add_left_comm]
abbrev fillA (L : Nat) (es : List (List V)) : V → V := updA L 0 es
theorem fillA_self {L sz : Nat} {es es0 : List (List V)} (h0 : V.labelsLL es0 = []) (h1 : V.labelsLL es = []) (h2 : es.length = es0.length) : fillA L es (.sl L sz 0 es0) = .sl L sz 0 es := by
  rw [fillA, updA_self es 0 es0 h0 h1 (by omega)]
  simp [h2]
theorem fillA_far {L M sz off : Nat} {es es0 : List (List V)} (hM : M ≠ L) (h0 : V.labelsLL es0 = []) : fillA L es (.sl M sz off es0) = .sl M sz off es0 := by
  refine updA_plain L (fun j e => ?_) es 0
  show updS L j e M sz off (V.travLL _ _ _ es0) = _
  rw [travLL_plain _ _ _ (fun _ => rfl) es0 h0, updS, if_neg (fun h => hM h.1)]
theorem kturn : (∀ (L : Nat) (es : List (List V)), fillA L es .any = .any) ∧ (∀ (L : Nat) (es : List (List V)) b, fillA L es (.bool b) = .bool b) ∧ (∀ (L : Nat) (es : List (List V)) k m, fillA L es (.int k m) = .int k m) ∧ (∀ (L : Nat) (es : List (List V)) s, fillA L es (.str s) = .str s) ∧ (∀ (L : Nat) (es : List (List V)) s, fillA L es (.nil s) = .nil s) ∧ (∀ (L : Nat) (es : List (List V)), fillA L es .nilP = .nilP) ∧
    (∀ (L : Nat) (es : List (List V)) cs, fillA L es (.agg cs) = .agg (cs.map (fillA L es))) ∧ (∀ (L : Nat) (es : List (List V)) cs, fillA L es (.tup cs) = .tup (cs.map (fillA L es))) :=
  ⟨fun L es => updA_plain L (fun _ _ => rfl) es 0, fun L es b => updA_plain L (fun _ _ => rfl) es 0, fun L es k m => updA_plain L (fun _ _ => rfl) es 0, fun L es s => updA_plain L (fun _ _ => rfl) es 0, fun L es s => updA_plain L (fun _ _ => rfl) es 0, fun L es => updA_plain L (fun _ _ => rfl) es 0,
    fun L es cs => updA_agg L es 0 cs, fun L es cs => updA_tup L es 0 cs⟩
theorem fillA_ptr {L M i o : Nat} {es : List (List V)} {cs : List V} (hM : M ≠ L) : fillA L es (.ptr M i o cs) = .ptr M i o (cs.map (fillA L es)) := updA_ptr L hM es 0 cs
section
variable {L j : Nat} {e1 e2 : List V}
mutual
theorem upd_twice1 (hu : V.travL V.nil (updS L j e2) (updP L j e2) e1 = e1) : ∀ x : V, V.trav V.nil (updS L j e2) (updP L j e2) (V.trav V.nil (updS L j e1) (updP L j e1) x) = V.trav V.nil (updS L j e2) (updP L j e2) x
  | .sl M sz off es => by
    have ih := upd_twice3 hu es
    show V.trav V.nil (updS L j e2) (updP L j e2) (updS L j e1 M sz off (V.travLL V.nil (updS L j e1) (updP L j e1) es)) = updS L j e2 M sz off (V.travLL V.nil (updS L j e2) (updP L j e2) es)
    by_cases hc : M = L ∧ off ≤ j
    · rw [updS, if_pos hc]
      show updS L j e2 M sz off (V.travLL V.nil (updS L j e2) (updP L j e2) ((V.travLL V.nil (updS L j e1) (updP L j e1) es).set (j - off) e1)) = _
      rw [updS, if_pos hc, updS, if_pos hc, ← ih]
      congr 1
      simp only [travLL_eq, List.map_set, List.set_set]
    · rw [updS, if_neg hc]
      show updS L j e2 M sz off (V.travLL V.nil (updS L j e2) (updP L j e2) (V.travLL V.nil (updS L j e1) (updP L j e1) es)) = _
      rw [ih]
  | .ptr M i o e => by
    have ih := upd_twice2 hu e
    show V.trav V.nil (updS L j e2) (updP L j e2) (updP L j e1 M i o (V.travL V.nil (updS L j e1) (updP L j e1) e)) = updP L j e2 M i o (V.travL V.nil (updS L j e2) (updP L j e2) e)
    by_cases hc : M = L ∧ i = j
    · rw [updP, if_pos hc]
      show updP L j e2 M i o (V.travL V.nil (updS L j e2) (updP L j e2) e1) = _
      rw [updP, if_pos hc, updP, if_pos hc]
    · rw [updP, if_neg hc]
      show updP L j e2 M i o (V.travL V.nil (updS L j e2) (updP L j e2) (V.travL V.nil (updS L j e1) (updP L j e1) e)) = _
      rw [ih]
  | .fn f cs => by show V.fn f _ = V.fn f _; rw [upd_twice2 hu cs]
  | .agg cs => by show V.agg _ = V.agg _; rw [upd_twice2 hu cs]
  | .tup cs => by show V.tup _ = V.tup _; rw [upd_twice2 hu cs]
  | .any => rfl
  | .bool _ => rfl
  | .int .. => rfl
  | .str _ => rfl
  | .nil _ => rfl
  | .nilP => rfl
theorem upd_twice2 (hu : V.travL V.nil (updS L j e2) (updP L j e2) e1 = e1) : ∀ l : List V, V.travL V.nil (updS L j e2) (updP L j e2) (V.travL V.nil (updS L j e1) (updP L j e1) l) = V.travL V.nil (updS L j e2) (updP L j e2) l
  | [] => rfl
  | x :: l => by
    show V.trav _ _ _ (V.trav _ _ _ x) :: V.travL _ _ _ (V.travL _ _ _ l) = _
    rw [upd_twice1 hu x, upd_twice2 hu l]; rfl
theorem upd_twice3 (hu : V.travL V.nil (updS L j e2) (updP L j e2) e1 = e1) : ∀ l : List (List V), V.travLL V.nil (updS L j e2) (updP L j e2) (V.travLL V.nil (updS L j e1) (updP L j e1) l) = V.travLL V.nil (updS L j e2) (updP L j e2) l
  | [] => rfl
  | x :: l => by
    show V.travL _ _ _ (V.travL _ _ _ x) :: V.travLL _ _ _ (V.travLL _ _ _ l) = _
    rw [upd_twice2 hu x, upd_twice3 hu l]; rfl
end
theorem upd_twice (hu : V.travL V.nil (updS L j e2) (updP L j e2) e1 = e1) (h : List V) : V.updL L j e2 (V.updL L j e1 h) = V.updL L j e2 h := upd_twice2 hu h
end
section
variable {P : Program} {ti : Tab} {t t' h h' : List V} {n n' : Nat} {Q : Exit → List V → List V → Nat → Prop} {ops : Array Oper} {o : Oper} {l : List Oper} {X : V} {late : List Nat}
theorem maskP_map (f : Nat → Bool) (g : V → V) (hg : g .any = .any) : ∀ (l : List V) (i : Nat), maskP f i (l.map g) = (maskP f i l).map g := by
  intro l i
  refine List.ext_getElem? fun j => ?_
  rw [maskP_get, List.getElem?_map, List.getElem?_map, maskP_get]
  cases l[j]? with
  | none => rfl
  | some x =>
    simp only [Option.map_some]
    split
    · rfl
    · rw [hg]
theorem opnd_maskP {f : Nat → Bool} {x : Operand} (hx : x ∈ o.op.operands.toList) (hf : ∀ d ∈ o.looksAt ops, f d = true) : opnd (maskP f 0 t) x = opnd t x := by
  cases x with
  | tmp d =>
    have hd : d ∈ o.looksAt ops := by
      unfold Oper.looksAt
      refine List.mem_append_left _ ?_
      exact List.mem_filterMap.2 ⟨.tmp d, hx, rfl⟩
    show nth (maskP f 0 t) d = nth t d
    rw [maskP_nth, if_pos (hf d hd)]
  | const v => rfl
  | func f => rfl
  | global g => rfl
theorem OpT.ev (hti : TabOk P ti) (he : ev1 ti t n o.type o.op = some (X, n')) : OpT P ops o t h n (putV t o.dst X) h n' := by
  intro f hf hd
  rw [← maskP_put (f := f) hd]
  refine ev1_ok hti rfl ?_
  rw [ev1_congr (t' := t) o.op o.type fun x hx => opnd_maskP hx hf]
  exact he
theorem OpT.store {T : TypeId} {p x : Operand} {L j : Nat} {e' : List V} (hti : TabOk P ti) (hdst : o.dst = none) (ho : o.op = .store T p x) (hs : storeE (ti T) (opnd t p) (opnd t x) = some (L, j, e')) (hc : ∃ y l, cellsV (opnd t x) = y :: l) (hfree : L ∉ V.labelsL e') : OpT P ops o t h n (V.updL L j e' t) (V.updL L j e' h) n := by
  obtain ⟨i, hi, hs'⟩ := storeE_ok hs hc
  intro f hf hd
  have e1 : opnd (maskP f 0 t) p = opnd t p := opnd_maskP (by rw [ho]; simp [Op.operands]) hf
  have e2 : opnd (maskP f 0 t) x = opnd t x := opnd_maskP (by rw [ho]; simp [Op.operands]) hf
  have := ok_store (h := h) (n := n) (t := maskP f 0 t) (hti _ _ hi) ho (by rw [e1, e2]; exact hs') hfree
  rw [hdst] at this
  have e3 : maskP f 0 (V.updL L j e' t) = V.updL L j e' (maskP f 0 t) := by
    unfold V.updL
    rw [travL_eq, travL_eq]
    exact maskP_map f _ rfl t 0
  rw [e3]
  exact this
def LateOk (P : Program) (ops : Array Oper) (t' : List V) (late : List Nat) : Prop := ∀ i ∈ late, ∀ o, ops[i]? = some o → ∃ X, (o.dst = none ∨ slot t' o = X) ∧ StepS P ops o t' 1 X 0
theorem LateOk.nil : LateOk P ops t' [] := fun i hi => by cases hi
theorem LateOk.cons {i : Nat} {o : Oper} {X : V} (hti : TabOk P ti) (hi : ops[i]? = some o) (hg : o.guard = none) (he : ev1 ti t' 1 o.type o.op = some (X, 1)) (hs : slot t' o = X) (hk : LateOk P ops t' late) : LateOk P ops t' (i :: late) := by
  intro j hj o' ho'
  rcases List.mem_cons.1 hj with rfl | hj
  · rw [hi] at ho'
    obtain rfl := Option.some.inj ho'
    rw [ev1_congr (t' := mask (o.looksAt ops) t') o.op o.type fun x hx => (opnd_mask hx).symm] at he
    obtain ⟨c, hc, hs'⟩ := ev1_S hti rfl he
    obtain rfl : c = 0 := by omega
    exact ⟨X, .inr hs, .inl ⟨hg, hs'⟩⟩
  · exact hk j hj o' ho'
theorem TOps.evL (hti : TabOk P ti) (hg : o.guard = none) (he : ev1 ti t n o.type o.op = some (X, n')) (ht : putV t o.dst X = t') (hl : LateOk P ops t' late) (hk : TOps P ops late Q l t' h n') : TOps P ops late Q (o :: l) t h n :=
  ⟨t', h, n', hg, .inr (ht ▸ OpT.ev hti he), hl, hk⟩
theorem TOps.storeL {T : TypeId} {p x : Operand} {L j : Nat} {e' : List V} (hti : TabOk P ti) (hg : o.guard = none) (hdst : o.dst = none) (ho : o.op = .store T p x) (hs : Go.Proofs.YtliiphpbfambcaaGreatDoor.K.storeE (ti T) (opnd t p) (opnd t x) = some (L, j, e')) (hc : ∃ y l, cellsV (opnd t x) = y :: l) (hfree : L ∉ V.labelsL e')
    (ht : V.updL L j e' t = t') (hh : V.updL L j e' h = h') (hl : LateOk P ops t' late) (hk : TOps P ops late Q l t' h' n) : TOps P ops late Q (o :: l) t h n :=
  ⟨t', h', n, hg, .inr (ht ▸ hh ▸ OpT.store hti hdst ho hs hc hfree), hl, hk⟩
end
end Go.Proofs.YtliiphpbfambcaaGreatDoor.K
