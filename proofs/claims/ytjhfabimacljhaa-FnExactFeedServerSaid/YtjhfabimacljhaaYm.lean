/- Marks on data of the call's own: what becomes of the values is told by a map that keeps all else. -/
import Derived.Test.YtjhfabimacljhaaYd
import Derived.Test.YtjhfabimacljhaaKy
import Derived.Test.YtjhfabimacljhaaY3
namespace Go.Proofs.Ytjhfabimacljhaa.K
open Go Go.RowKit
set_option linter.unusedVariables false
set_option linter.unusedSimpArgs false
theorem le_eqm {a b : V} (h : a = b) : V.le a b := h ▸ le_rfl' a
mutual
theorem trav_far {L : Nat} {fs : Nat → Nat → Nat → List (List V) → V} {fp : Nat → Nat → Nat → List V → V} (hs : ∀ M sz off es, M ≠ L → fs M sz off es = .sl M sz off es) (hp : ∀ M i o e, M ≠ L → fp M i o e = .ptr M i o e) : ∀ x : V, L ∉ V.labels x → V.trav V.nil fs fp x = x
  | .sl M sz off es, h => by
    simp only [V.labels, List.mem_cons, not_or] at h
    show fs M sz off (V.travLL V.nil fs fp es) = _
    rw [hs _ _ _ _ (Ne.symm h.1), travLL_far hs hp es h.2]
  | .ptr M i o e, h => by
    simp only [V.labels, List.mem_cons, not_or] at h
    show fp M i o (V.travL V.nil fs fp e) = _
    rw [hp _ _ _ _ (Ne.symm h.1), travL_far hs hp e h.2]
  | .fn f cs, h => by show V.fn f (V.travL V.nil fs fp cs) = _; rw [travL_far hs hp cs h]
  | .agg cs, h => by show V.agg (V.travL V.nil fs fp cs) = _; rw [travL_far hs hp cs h]
  | .tup cs, h => by show V.tup (V.travL V.nil fs fp cs) = _; rw [travL_far hs hp cs h]
  | .any, _ => rfl
  | .bool _, _ => rfl
  | .int .., _ => rfl
  | .str _, _ => rfl
  | .nil s, _ => rfl
  | .nilP, _ => rfl
theorem travL_far {L : Nat} {fs : Nat → Nat → Nat → List (List V) → V} {fp : Nat → Nat → Nat → List V → V} (hs : ∀ M sz off es, M ≠ L → fs M sz off es = .sl M sz off es) (hp : ∀ M i o e, M ≠ L → fp M i o e = .ptr M i o e) : ∀ l : List V, L ∉ V.labelsL l → V.travL V.nil fs fp l = l
  | [], _ => rfl
  | x :: l, h => by
    simp only [V.labelsL, List.mem_append, not_or] at h
    show V.trav V.nil fs fp x :: V.travL V.nil fs fp l = _
    rw [trav_far hs hp x h.1, travL_far hs hp l h.2]
theorem travLL_far {L : Nat} {fs : Nat → Nat → Nat → List (List V) → V} {fp : Nat → Nat → Nat → List V → V} (hs : ∀ M sz off es, M ≠ L → fs M sz off es = .sl M sz off es) (hp : ∀ M i o e, M ≠ L → fp M i o e = .ptr M i o e) : ∀ l : List (List V), L ∉ V.labelsLL l → V.travLL V.nil fs fp l = l
  | [], _ => rfl
  | x :: l, h => by
    simp only [V.labelsLL, List.mem_append, not_or] at h
    show V.travL V.nil fs fp x :: V.travLL V.nil fs fp l = _
    rw [travL_far hs hp x h.1, travLL_far hs hp l h.2]
end
/-- A map that touches the arrays Ls alone. -/
structure Hom (f : V → V) (Ls : Nat → Prop) : Prop where
  far : ∀ v, (∀ L ∈ V.labels v, ¬ Ls L) → f v = v
  agg : ∀ cs, f (.agg cs) = .agg (cs.map f)
  ptr : ∀ L i o e, ¬ Ls L → f (.ptr L i o e) = .ptr L i o (e.map f)
  sl : ∀ L sz off es, ¬ Ls L → f (.sl L sz off es) = .sl L sz off (es.map (List.map f))
section
variable {f g : V → V} {A B : Nat → Prop}
theorem Hom.id' (A : Nat → Prop) : Hom id A :=
  ⟨fun _ _ => rfl, fun cs => by rw [List.map_id]; rfl, fun L i o e _ => by rw [List.map_id]; rfl, fun L sz off es _ => by rw [show (List.map id : List V → List V) = id from funext fun l => List.map_id l, List.map_id]; rfl⟩
theorem Hom.comp (hg : Hom g A) (hf : Hom f A) : Hom (g ∘ f) A :=
  ⟨fun v h => by show g (f v) = v; rw [hf.far v h, hg.far v h], fun cs => by show g (f _) = _; rw [hf.agg, hg.agg, List.map_map],
   fun L i o e h => by show g (f _) = _; rw [hf.ptr _ _ _ _ h, hg.ptr _ _ _ _ h, List.map_map],
   fun L sz off es h => by
    show g (f _) = _
    rw [hf.sl _ _ _ _ h, hg.sl _ _ _ _ h, List.map_map]
    congr 1
    refine List.map_congr_left fun e _ => ?_
    show List.map g (List.map f e) = _
    rw [List.map_map]⟩
theorem Hom.mono (hf : Hom f A) (h : ∀ L, A L → B L) : Hom f B :=
  ⟨fun v hv => hf.far v fun L hL hA => hv L hL (h L hA), hf.agg, fun L i o e hL => hf.ptr L i o e fun hA => hL (h L hA), fun L sz off es hL => hf.sl L sz off es fun hA => hL (h L hA)⟩
theorem Hom.int (hf : Hom f A) (k : IntKind) (n : Int) : f (.int k n) = .int k n := hf.far _ fun L h => by cases h
theorem Hom.str (hf : Hom f A) (s : List UInt8) : f (.str s) = .str s := hf.far _ fun L h => by cases h
theorem Hom.bool (hf : Hom f A) (b : Bool) : f (.bool b) = .bool b := hf.far _ fun L h => by cases h
theorem Hom.any (hf : Hom f A) : f .any = .any := hf.far _ fun L h => by cases h
theorem Hom.tup0 (hf : Hom f A) : f (.tup []) = .tup [] := hf.far _ fun L h => by cases h
theorem Hom.farL (hf : Hom f A) (l : List V) (h : ∀ L ∈ V.labelsL l, ¬ A L) : l.map f = l := by
  induction l with
  | nil => rfl
  | cons x xs ih =>
    simp only [V.labelsL, List.mem_append] at h
    rw [List.map_cons, hf.far x fun L hL => h L (.inl hL), ih fun L hL => h L (.inr hL)]
theorem Hom.farLL (hf : Hom f A) (l : List (List V)) (h : ∀ L ∈ V.labelsLL l, ¬ A L) : l.map (List.map f) = l := by
  induction l with
  | nil => rfl
  | cons x xs ih =>
    simp only [V.labelsLL, List.mem_append] at h
    rw [List.map_cons, hf.farL x fun L hL => h L (.inl hL), ih fun L hL => h L (.inr hL)]
end
theorem upd_hom (L j : Nat) (e' : List V) : Hom (V.upd L j e') (· = L) :=
  ⟨fun v h => trav_far (fun M sz off es hM => if_neg fun hh => hM hh.1) (fun M i o e hM => if_neg fun hh => hM hh.1) v fun hL => h L hL rfl,
   fun cs => by show V.agg (V.travL _ _ _ cs) = _; rw [travL_eq]; rfl,
   fun M i o e hM => by show updP L j e' M i o (V.travL _ _ _ e) = _; rw [updP, if_neg fun hh => hM hh.1, travL_eq]; rfl,
   fun M sz off es hM => by
    show updS L j e' M sz off (V.travLL _ _ _ es) = _
    rw [updS, if_neg fun hh => hM hh.1, travLL_eq]
    congr 1
    refine List.map_congr_left fun e _ => ?_
    rw [travL_eq]; rfl⟩
/-- What a store does. -/
structure StoreF (W : V → V) (L j : Nat) (e' : List V) : Prop where
  sl : ∀ sz es, L ∉ V.labelsLL es → W (.sl L sz 0 es) = .sl L sz 0 (es.set j e')
  ptr : ∀ o e, W (.ptr L j o e) = .ptr L j o e'
theorem upd_storeF (L j : Nat) (e' : List V) : StoreF (V.upd L j e') L j e' :=
  ⟨fun sz es h => by
    show updS L j e' L sz 0 (V.travLL _ _ _ es) = _
    rw [travLL_far (L := L) (fs := updS L j e') (fp := updP L j e') (fun M sz off es hM => if_neg fun hh => hM hh.1) (fun M i o e hM => if_neg fun hh => hM hh.1) es h, updS, if_pos ⟨rfl, Nat.zero_le _⟩, Nat.sub_zero],
   fun o e => by show updP L j e' L j o (V.travL _ _ _ e) = _; rw [updP, if_pos ⟨rfl, rfl⟩]⟩
mutual
/-- How many marks a value takes. -/
def V.mn : V → Nat
  | .sl _ _ _ es => V.mnLL es
  | .ptr .. => 0
  | .fn .. => 0
  | .agg _ => 0
  | .tup _ => 0
  | .any => 0
  | .bool _ => 1
  | .int .. => 1
  | .str _ => 1
  | .nil _ => 0
  | .nilP => 0
def V.mnL : List V → Nat
  | [] => 0
  | x :: xs => V.mn x + V.mnL xs
def V.mnLL : List (List V) → Nat
  | [] => 0
  | e :: es => V.mnL e + V.mnLL es
end
mutual
/-- The value with marks in it, from k on. -/
def V.mk (k : Nat) : V → V
  | .sl L sz off es => .sl L sz off (V.mkLL k es)
  | .ptr L i o e => .ptr L i o e
  | .fn f cs => .fn f cs
  | .agg cs => .agg cs
  | .tup cs => .tup cs
  | .any => .any
  | .bool _ => .bool (decide ((k : Int).tmod 3 = 0))
  | .int κ _ => .int κ (k : Int)
  | .str _ => .str (markT k)
  | .nil s => .nil s
  | .nilP => .nilP
def V.mkL (k : Nat) : List V → List V
  | [] => []
  | x :: xs => V.mk k x :: V.mkL (k + V.mn x) xs
def V.mkLL (k : Nat) : List (List V) → List (List V)
  | [] => []
  | e :: es => V.mkL k e :: V.mkLL (k + V.mnL e) es
end
mutual
theorem mk_labels : ∀ (x : V) (k : Nat), V.labels (V.mk k x) = V.labels x
  | .sl L sz off es, k => by show L :: V.labelsLL (V.mkLL k es) = _; rw [mkLL_labels es k]; rfl
  | .ptr L i o e, k => rfl
  | .fn f cs, k => rfl
  | .agg cs, k => rfl
  | .tup cs, k => rfl
  | .any, k => rfl
  | .bool _, k => rfl
  | .int .., k => rfl
  | .str _, k => rfl
  | .nil s, k => rfl
  | .nilP, k => rfl
theorem mkL_labels : ∀ (l : List V) (k : Nat), V.labelsL (V.mkL k l) = V.labelsL l
  | [], k => rfl
  | x :: l, k => by show V.labels (V.mk k x) ++ V.labelsL (V.mkL _ l) = _; rw [mk_labels x k, mkL_labels l]; rfl
theorem mkLL_labels : ∀ (l : List (List V)) (k : Nat), V.labelsLL (V.mkLL k l) = V.labelsLL l
  | [], k => rfl
  | x :: l, k => by show V.labelsL (V.mkL k x) ++ V.labelsLL (V.mkLL _ l) = _; rw [mkL_labels x k, mkLL_labels l]; rfl
end
theorem mkLL_len : ∀ (l : List (List V)) (k : Nat), (V.mkLL k l).length = l.length
  | [], k => rfl
  | x :: l, k => by show (V.mkLL _ l).length + 1 = l.length + 1; rw [mkLL_len l]
theorem mnLL_app : ∀ (a b : List (List V)), V.mnLL (a ++ b) = V.mnLL a + V.mnLL b
  | [], b => (Nat.zero_add _).symm
  | x :: a, b => by show V.mnL x + V.mnLL (a ++ b) = V.mnL x + V.mnLL a + V.mnLL b; rw [mnLL_app a b]; omega
theorem mkLL_app : ∀ (a b : List (List V)) (k : Nat), V.mkLL k (a ++ b) = V.mkLL k a ++ V.mkLL (k + V.mnLL a) b
  | [], b, k => rfl
  | x :: a, b, k => by
    show V.mkL k x :: V.mkLL _ (a ++ b) = V.mkL k x :: (V.mkLL _ a ++ V.mkLL (k + (V.mnL x + V.mnLL a)) b)
    rw [mkLL_app a b, Nat.add_assoc]
theorem mkLL_snoc (a : List (List V)) (c : List V) (k : Nat) : V.mkLL k (a ++ [c]) = V.mkLL k a ++ [V.mkL (k + V.mnLL a) c] := by rw [mkLL_app]; rfl
theorem mnLL_snoc (a : List (List V)) (c : List V) : V.mnLL (a ++ [c]) = V.mnLL a + V.mnL c := by rw [mnLL_app]; rfl
mutual
theorem mn_erase : ∀ x : V, V.mn (V.erase x) = V.mn x
  | .sl L sz off es => by show V.mnLL (V.eraseLL es) = _; rw [mnLL_erase es]; rfl
  | .ptr L i o e => rfl
  | .fn f cs => rfl
  | .agg cs => rfl
  | .tup cs => rfl
  | .any => rfl
  | .bool _ => rfl
  | .int .. => rfl
  | .str _ => rfl
  | .nil s => rfl
  | .nilP => rfl
theorem mnL_erase : ∀ l : List V, V.mnL (V.eraseL l) = V.mnL l
  | [] => rfl
  | x :: l => by show V.mn (V.erase x) + V.mnL (V.eraseL l) = _; rw [mn_erase x, mnL_erase l]; rfl
theorem mnLL_erase : ∀ l : List (List V), V.mnLL (V.eraseLL l) = V.mnLL l
  | [] => rfl
  | x :: l => by show V.mnL (V.eraseL x) + V.mnLL (V.eraseLL l) = _; rw [mnL_erase x, mnLL_erase l]; rfl
end
mutual
/-- Slices, numbers, flags and texts alone, no pointers. -/
def V.pl : V → Bool
  | .sl _ _ off es => off == 0 && V.plLL es
  | .bool _ => true
  | .int .. => true
  | .str _ => true
  | .ptr .. => false
  | .fn .. => false
  | .agg _ => false
  | .tup _ => false
  | .any => false
  | .nil _ => false
  | .nilP => false
def V.plL : List V → Bool
  | [] => true
  | x :: xs => V.pl x && V.plL xs
def V.plLL : List (List V) → Bool
  | [] => true
  | e :: es => V.plL e && V.plLL es
end
mutual
theorem mk_erase : ∀ (x : V) (k : Nat), V.pl x = true → V.erase (V.mk k x) = V.mk k (V.erase x)
  | .sl L sz off es, k, h => by
    simp only [V.pl, Bool.and_eq_true] at h
    show V.sl 0 sz 0 (V.eraseLL (V.mkLL k es)) = V.sl 0 sz 0 (V.mkLL k (V.eraseLL es))
    rw [mkLL_erase es k h.2]
  | .bool _, k, h => rfl
  | .int .., k, h => rfl
  | .str _, k, h => rfl
  | .ptr .., k, h => by cases h
  | .fn .., k, h => by cases h
  | .agg _, k, h => by cases h
  | .tup _, k, h => by cases h
  | .any, k, h => by cases h
  | .nil _, k, h => by cases h
  | .nilP, k, h => by cases h
theorem mkL_erase : ∀ (l : List V) (k : Nat), V.plL l = true → V.eraseL (V.mkL k l) = V.mkL k (V.eraseL l)
  | [], k, h => rfl
  | x :: l, k, h => by
    simp only [V.plL, Bool.and_eq_true] at h
    show V.erase (V.mk k x) :: V.eraseL (V.mkL _ l) = V.mk k (V.erase x) :: V.mkL (k + V.mn (V.erase x)) (V.eraseL l)
    rw [mk_erase x k h.1, mkL_erase l _ h.2, mn_erase]
theorem mkLL_erase : ∀ (l : List (List V)) (k : Nat), V.plLL l = true → V.eraseLL (V.mkLL k l) = V.mkLL k (V.eraseLL l)
  | [], k, h => rfl
  | x :: l, k, h => by
    simp only [V.plLL, Bool.and_eq_true] at h
    show V.eraseL (V.mkL k x) :: V.eraseLL (V.mkLL _ l) = V.mkL k (V.eraseL x) :: V.mkLL (k + V.mnL (V.eraseL x)) (V.eraseLL l)
    rw [mkL_erase x k h.1, mkLL_erase l _ h.2, mnL_erase]
end
theorem labelsLL_app (a b : List (List V)) : V.labelsLL (a ++ b) = V.labelsLL a ++ V.labelsLL b := by
  induction a with
  | nil => rfl
  | cons x a ih => rw [List.cons_append]; show V.labelsL x ++ V.labelsLL (a ++ b) = V.labelsL x ++ V.labelsLL a ++ V.labelsLL b; rw [ih, List.append_assoc]
theorem get_mid {α : Type} {a b : List α} {c : α} {i : Nat} (h : a.length = i) : (a ++ c :: b)[i]? = some c := by subst h; simp
theorem set_mid {α : Type} {a b : List α} {c d : α} {i : Nat} (h : a.length = i) : (a ++ c :: b).set i d = a ++ d :: b := by subst h; simp
/-- The end of a function that marks. -/
def MarkQ (A : Nat → Prop) (a a' R : V) (h : List V) (m : Nat) : V → List V → Nat → Prop := fun r h1 n1 => r = R ∧ n1 = m ∧ ∃ U, Hom U A ∧ U a = a' ∧ h1 = h.map U
section
variable {P : Program} {ti : Tab} {t h h0 : List V} {n n' : Nat} {Q : Exit → List V → List V → Nat → Prop} {ops : Array Oper} {o : Oper} {l : List Oper} {t' : List V}
theorem setN_set : ∀ (t : List V) (d : Nat) (x : V), setN t d x = t.set d x
  | [], d, x => by cases d <;> rfl
  | y :: t, 0, x => rfl
  | y :: t, d + 1, x => by show y :: setN t d x = y :: t.set d x; rw [setN_set t d x]
theorem Ok.drop {c : Code} (dead : List Nat) (ht : overD dead t = t') (hk : Ok P c t' h n Q) : Ok P c t h n Q := by
  have hlen : ∀ (dead : List Nat) (t : List V), (overD dead t).length = t.length := by
    intro dead
    induction dead with
    | nil => intro t; rfl
    | cons d l ih => intro t; show (overD l (setN t d .any)).length = _; rw [ih, setN_set, List.length_set]
  have hget : ∀ (dead : List Nat) (t : List V) (i : Nat) (x y : V), t[i]? = some x → (overD dead t)[i]? = some y → y = x ∨ y = .any := by
    intro dead
    induction dead with
    | nil => intro t i x y hx hy; exact .inl (Option.some.inj (hy.symm.trans hx))
    | cons d l ih =>
      intro t i x y hx hy
      have hy' : (overD l (setN t d .any))[i]? = some y := hy
      by_cases hdi : d = i
      · subst hdi
        have hs : (setN t d .any)[d]? = some .any := by
          have hi := (List.getElem?_eq_some_iff.1 hx).1
          rw [setN_set, List.getElem?_set_self hi]
        rcases ih _ _ _ _ hs hy' with h | h
        · exact .inr h
        · exact .inr h
      · have hs : (setN t d .any)[i]? = some x := by rw [setN_set, List.getElem?_set_ne hdi, hx]
        exact ih _ _ _ _ hs hy'
  subst ht
  refine Ok.forget (hlen dead t).symm (fun i x y hx hy => ?_) hk
  rcases hget dead t i x y hx hy with rfl | rfl
  · exact le_rfl' _
  · exact le_any _
theorem OkOps.turnU {fx : Operand} {args : Array Operand} {ts : Array TypeId} {f : FuncId} {caps ag : List V} {U0 : V → V} {v0 x x' a a' R : V} {A B : Nat → Prop} (c : Nat) (hg : o.guard = none) (ho : o.op = .call ⟨.value fx, args, ts⟩) (hf : opnd t fx = .fn f caps) (ha : args.toList.map (opnd t) ++ caps = ag)
    (hcl : Callable P f) (hc : ∀ h, OkCall P f ag h n (MarkQ A a a' R h (n + c))) (hn : n + c = n') (hU : Hom U0 B) (hv : U0 v0 = x) (hsub : ∀ L, A L → B L) (hx : ∀ W, Hom W A → W a = a' → W x = x') (ht : ∀ W, Hom W A → W a = a' → putV (t.map W) o.dst R = t')
    (hk : ∀ U, Hom U B → U v0 = x' → OkOps P ops l t' (h0.map U) n' Q) : OkOps P ops (o :: l) t (h0.map U0) n Q := by
  intro base w0 hv' σ act w g
  unfold wpList
  rw [if_pos (wanted_none hg _)]
  refine .inl (call_wp ho hf hcl (R := MarkQ A a a' R (t ++ h0.map U0) (n + c)) (by rw [ha]; exact hc _) g _ _ ?_)
  rintro r t1 h1 n1 σ' a2 w' ⟨rfl, rfl, W, hW, hWa, he⟩ hl g'
  rw [List.map_append] at he
  obtain ⟨rfl, rfl⟩ := List.append_inj he (by rw [List.length_map]; exact hl)
  rw [ht W hW hWa, List.map_map, hn] at g'
  exact hk (W ∘ U0) ((hW.mono hsub).comp hU) (by show W (U0 v0) = x'; rw [hv, hx W hW hWa]) base w0 hv' σ' a2 w' g'
theorem OkOps.storeU {T : TypeId} {p q : Operand} {L j : Nat} {e' : List V} {U0 : V → V} {v0 x x' : V} {B : Nat → Prop} (hti : TabOk P ti) (hg : o.guard = none) (ho : o.op = .store T p q) (hs : Go.Proofs.Ytjhfabimacljhaa.K.storeE (ti T) (opnd t p) (opnd t q) = some (L, j, e')) (hc : ∃ y l, cellsV (opnd t q) = y :: l) (hfree : L ∉ V.labelsL e')
    (hU : Hom U0 B) (hv : U0 v0 = x) (hB : B L) (hx : ∀ W, Hom W (· = L) → StoreF W L j e' → W x = x') (ht : ∀ W, Hom W (· = L) → StoreF W L j e' → putV (t.map W) o.dst .any = t')
    (hk : ∀ U, Hom U B → U v0 = x' → OkOps P ops l t' (h0.map U) n Q) : OkOps P ops (o :: l) t (h0.map U0) n Q := by
  have hW := upd_hom L j e'
  have hF := upd_storeF L j e'
  refine OkOps.storeE hti hg ho hs hc hfree (t' := t') (h' := h0.map (V.upd L j e' ∘ U0)) ?_ ?_ ?_
  · unfold V.updL; rw [travL_eq]; exact ht _ hW hF
  · unfold V.updL; rw [travL_eq, List.map_map]; rfl
  · exact hk _ ((hW.mono fun M hM => by rw [hM]; exact hB).comp hU) (by show V.upd L j e' (U0 v0) = x'; rw [hv, hx _ hW hF])
end
end Go.Proofs.Ytjhfabimacljhaa.K
