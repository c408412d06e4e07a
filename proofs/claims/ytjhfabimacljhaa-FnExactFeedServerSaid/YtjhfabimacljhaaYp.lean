/- Loops in which new memory is named in every round; what is appended and stored in a region that draws its order. -/
import Derived.Test.YtjhfabimacljhaaYo
import Derived.Test.YtjhfabimacljhaaYg
namespace Go.Proofs.Ytjhfabimacljhaa.K
open Go Go.RowKit
set_option linter.unusedVariables false
set_option linter.unusedSimpArgs false
section
variable {P : Program} {ti : Tab} {t t' h : List V} {n n' : Nat} {Q : Exit → List V → List V → Nat → Prop} {ops : Array Oper} {o : Oper} {l : List Oper}
theorem M.le' {base : Base} {σ : Sig} {w : World} {x y : V} {v : Value} (h : V.le x y) (hm : M base σ w x v) : M base σ w y v := by
  rcases h with rfl | rfl | ⟨L, sz, rfl, rfl⟩
  · exact hm
  · exact .any _
  · cases hm with
    | nil _ A => exact .sl L sz 0 [] A 0 (fun _ _ => undef) (Nat.le_refl _) (Nat.zero_le _) (by simp) (.inr (.inl rfl)) (by simp) (by simp)
/-- The cells of a block less told than they were. -/
theorem Ok.cell {c : Code} {d L i o : Nat} {e : List V} (e' : List V) (hd : t[d]? = some (.ptr L i o e)) (hle : leL e e') (ht : t.set d (.ptr L i o e') = t') (hk : Ok P c t' h n Q) : Ok P c t h n Q := by
  subst ht
  intro base w0 hv σ a w g
  refine hk base w0 hv σ a w ⟨⟨by rw [List.length_set]; exact g.ts.1, fun j y u hy hu => ?_⟩, g.hs, g.dfr, g.bel, g.inv⟩
  by_cases hj : d = j
  · subst hj
    rw [List.getElem?_set_self (List.getElem?_eq_some_iff.1 hd).1] at hy
    obtain rfl := Option.some.inj hy
    have hm := g.ts.2 d _ u hd hu
    cases hm with
    | ptr _ _ _ _ ad u4 h4 h5 h6 =>
      have hl := (leL_spec hle).1
      have get : ∀ (c : Nat) y, e'[c]? = some y → ∃ x, e[c]? = some x ∧ V.le x y := by
        intro c y hy
        have hc : c < e.length := by have := (List.getElem?_eq_some_iff.1 hy).1; omega
        exact ⟨e[c], List.getElem?_eq_getElem hc, (leL_spec hle).2 c _ y (List.getElem?_eq_getElem hc) hy⟩
      refine .ptr L i o e' ad u4 (by rw [← hl]; exact h4) (fun c y hy => ?_) (fun c y hy => ?_)
      · obtain ⟨x, hx, _⟩ := get c y hy; exact h5 c x hx
      · obtain ⟨x, hx, hxy⟩ := get c y hy; exact M.le' hxy (h6 c x hx)
  · rw [List.getElem?_set_ne hj] at hy
    exact g.ts.2 j y u hy hu
/-- A loop in which the next label grows with the state. -/
theorem Ok.loopN {τ : Type} {c : Code} {F : τ → List V} (W : τ → List (Nat × V)) (dead : List Nat) (hF : ∀ x, overW (W x) (overD dead t) = F x) (N : τ → Nat) (p : τ → Prop) (m : τ → Nat) (x : τ) (hle : leL t (F x)) (hn : n ≤ N x) (hp : p x)
    (round : ∀ x, p x → Ok P c (F x) h (N x) (thenQ (fun t' h' n' => ∃ y, leL t' (F y) ∧ h' = h ∧ n' ≤ N y ∧ p y ∧ m y < m x) Q)) : Ok P (.loop c) t h n Q := by
  refine Ok.loop (fun x t' h' n' => leL t' (F x) ∧ h' = h ∧ n' ≤ N x ∧ p x) m x ⟨hle, rfl, hn, hp⟩ ?_
  rintro x t' h' n' ⟨h1, rfl, h3, h4⟩
  refine Ok.bump h3 (Ok.forget (leL_spec h1).1 (leL_spec h1).2 ((round x h4).mono ?_))
  intro e t2 h2 n2 hq
  cases e with
  | normal => obtain ⟨y, a, b, c, d, e⟩ := hq; exact ⟨y, ⟨a, b, c, d⟩, e⟩
  | exit id => exact hq
  | goto l => exact hq
  | ret => exact hq
  | panic ch => exact hq
  | outgrown => exact hq
/-- What an append does to what names the old array. -/
structure KillF (W : V → V) (L : Nat) : Prop where
  sl : ∀ sz off es, W (.sl L sz off es) = .any
  ptr : ∀ i o e, W (.ptr L i o e) = .any
theorem kill_hom (L : Nat) : Hom (V.kill L) (· = L) :=
  ⟨fun v h => trav_far (fun M sz off es hM => if_neg hM) (fun M i o e hM => if_neg hM) v fun hL => h L hL rfl,
   fun cs => by show V.agg (V.travL _ _ _ cs) = _; rw [travL_eq]; rfl,
   fun M i o e hM => by show killP L M i o (V.travL _ _ _ e) = _; rw [killP, if_neg hM, travL_eq]; rfl,
   fun M sz off es hM => by
    show killS L M sz off (V.travLL _ _ _ es) = _
    rw [killS, if_neg hM, travLL_eq]
    congr 1
    refine List.map_congr_left fun e _ => ?_
    rw [travL_eq]; rfl⟩
theorem kill_killF (L : Nat) : KillF (V.kill L) L :=
  ⟨fun sz off es => by show killS L L sz off _ = _; rw [killS, if_pos rfl], fun i o e => by show killP L L i o _ = _; rw [killP, if_pos rfl]⟩
theorem killLL_far {L : Nat} {es : List (List V)} (h : L ∉ V.labelsLL es) : V.killLL L es = es := travLL_far (L := L) (fun M sz off es hM => if_neg hM) (fun M i o e hM => if_neg hM) es h
theorem OkOps.appendN {T e : TypeId} {i : TInfo} {s x : Operand} {L off : Nat} {es es2 : List (List V)} {s1 b1 : Nat} {z1 : List V} (hti : TabOk P ti) (hg : o.guard = none) (ho : o.op = .call ⟨.builtin .append, #[s, x], #[T, T]⟩) (hT : ti T = some ⟨.slice e, s1, b1, z1⟩) (he : ti e = some i)
    (hi : 0 < i.size) (hz : i.zero.length = i.size) (hs : opnd t s = .sl L i.size off es) (hx : (∃ L2 off2, opnd t x = .sl L2 i.size off2 es2) ∨ (es2 = [] ∧ ∃ q, opnd t x = .nil q)) (hL : L ≠ 0) (hLn : L < n)
    (hb : (es.length + es2.length) * i.bytes ≤ 140737488355328) (hb2 : es.length + es2.length ≤ 9223372036854775807) (hone : ∀ e ∈ es2, ∀ y ∈ e, V.one y = true) (hfar : L ∉ V.labelsLL (es ++ es2)) (ht : ∀ W, Hom W (· = L) → KillF W L → putV (t.map W) o.dst (.sl L i.size 0 (es ++ es2)) = t')
    (hk : OkOps P ops l t' [] n Q) : OkOps P ops (o :: l) t [] n Q :=
  OkOps.append hti hg ho hT he hi hz hs hx hL hLn hb hb2 hone (killLL_far hfar) (by unfold V.killL; rw [travL_eq]; exact ht _ (kill_hom L) (kill_killF L)) rfl hk
theorem TOps.appendN {T e : TypeId} {i : TInfo} {s x : Operand} {L off : Nat} {es es2 : List (List V)} {s1 b1 : Nat} {z1 : List V} (hti : TabOk P ti) (hg : o.guard = none) (ho : o.op = .call ⟨.builtin .append, #[s, x], #[T, T]⟩) (hT : ti T = some ⟨.slice e, s1, b1, z1⟩) (he : ti e = some i)
    (hi : 0 < i.size) (hz : i.zero.length = i.size) (hs : opnd t s = .sl L i.size off es) (hx : (∃ L2 off2, opnd t x = .sl L2 i.size off2 es2) ∨ (es2 = [] ∧ ∃ q, opnd t x = .nil q)) (hL : L ≠ 0) (hLn : L < n)
    (hb : (es.length + es2.length) * i.bytes ≤ 140737488355328) (hb2 : es.length + es2.length ≤ 9223372036854775807) (hone : ∀ e ∈ es2, ∀ y ∈ e, V.one y = true) (hfar : L ∉ V.labelsLL (es ++ es2)) (ht : ∀ W, Hom W (· = L) → KillF W L → putV (t.map W) o.dst (.sl L i.size 0 (es ++ es2)) = t')
    (hk : TOps P ops [] Q l t' [] n) : TOps P ops [] Q (o :: l) t [] n :=
  TOps.append hti hg ho hT he hi hz hs hx hL hLn hb hb2 hone (killLL_far hfar) (by unfold V.killL; rw [travL_eq]; exact ht _ (kill_hom L) (kill_killF L)) rfl hk
theorem TOps.storeN {T : TypeId} {p q : Operand} {L j : Nat} {e' : List V} (hti : TabOk P ti) (hg : o.guard = none) (ho : o.op = .store T p q) (hs : Go.Proofs.Ytjhfabimacljhaa.K.storeE (ti T) (opnd t p) (opnd t q) = some (L, j, e')) (hc : ∃ y l, cellsV (opnd t q) = y :: l) (hfree : L ∉ V.labelsL e')
    (ht : ∀ W, Hom W (· = L) → StoreF W L j e' → putV (t.map W) o.dst .any = t') (hk : TOps P ops [] Q l t' [] n) : TOps P ops [] Q (o :: l) t [] n :=
  TOps.storeE hti hg ho hs hc hfree (by unfold V.updL; rw [travL_eq]; exact ht _ (upd_hom L j e') (upd_storeF L j e')) rfl hk
end
theorem rows_snocL {lo : Nat} {α : Type} {f : α → List V} {a : List α} {d : List (List V)} {c : List V} {k m : Nat} (hlo : lo ≤ k + 1) (hi : d.length < a.length) (h1 : V.travLL (fun sz => V.sl 0 sz 0 []) (fun _ sz _ es => V.sl 0 sz 0 es) (fun _ _ o e => V.ptr 0 0 o e) d = (a.take d.length).map f) (h2 : (V.labelsLL d).Nodup) (h3 : ∀ z ∈ V.labelsLL d, lo ≤ z ∧ z < k + 1)
    (hk : 1 ≤ k) (hkm : k ≤ m) (hc1 : V.travL (fun sz => V.sl 0 sz 0 []) (fun _ sz _ es => V.sl 0 sz 0 es) (fun _ _ o e => V.ptr 0 0 o e) c = f a[d.length]) (hc2 : (V.labelsL c).Nodup) (hc3 : ∀ z ∈ V.labelsL c, k + 1 ≤ z ∧ z < m + 1) :
    (d ++ [c]).length ≤ a.length ∧ V.travLL (fun sz => V.sl 0 sz 0 []) (fun _ sz _ es => V.sl 0 sz 0 es) (fun _ _ o e => V.ptr 0 0 o e) (d ++ [c]) = (a.take (d ++ [c]).length).map f ∧ (V.labelsLL (d ++ [c])).Nodup ∧ (∀ z ∈ V.labelsLL (d ++ [c]), lo ≤ z ∧ z < m + 1) ∧ 1 ≤ m := by
  have hl : (d ++ [c]).length = d.length + 1 := by simp
  have hlab : V.labelsLL (d ++ [c]) = V.labelsLL d ++ V.labelsL c := by rw [labelsLL_app]; show V.labelsLL d ++ (V.labelsL c ++ []) = _; rw [List.append_nil]
  refine ⟨by omega, ?_, ?_, ?_, by omega⟩
  · rw [hl, List.take_succ_eq_append_getElem hi, List.map_append, ← h1, travLL_eq, List.map_append, ← travLL_eq]
    show _ ++ [V.travL _ _ _ c] = _
    rw [hc1]; rfl
  · rw [hlab, List.nodup_append]
    exact ⟨h2, hc2, fun y hy z hz h => by have := h3 y hy; have := hc3 z hz; omega⟩
  · intro z hz
    rw [hlab, List.mem_append] at hz
    rcases hz with hz | hz
    · have := h3 z hz; omega
    · have := hc3 z hz; omega
theorem rows_snoc {α : Type} {f : α → List V} {a : List α} {d : List (List V)} {c : List V} {k m : Nat} (hi : d.length < a.length) (h1 : V.travLL (fun sz => V.sl 0 sz 0 []) (fun _ sz _ es => V.sl 0 sz 0 es) (fun _ _ o e => V.ptr 0 0 o e) d = (a.take d.length).map f) (h2 : (V.labelsLL d).Nodup) (h3 : ∀ z ∈ V.labelsLL d, 2 ≤ z ∧ z < k + 1)
    (hk : 1 ≤ k) (hkm : k ≤ m) (hc1 : V.travL (fun sz => V.sl 0 sz 0 []) (fun _ sz _ es => V.sl 0 sz 0 es) (fun _ _ o e => V.ptr 0 0 o e) c = f a[d.length]) (hc2 : (V.labelsL c).Nodup) (hc3 : ∀ z ∈ V.labelsL c, k + 1 ≤ z ∧ z < m + 1) :
    (d ++ [c]).length ≤ a.length ∧ V.travLL (fun sz => V.sl 0 sz 0 []) (fun _ sz _ es => V.sl 0 sz 0 es) (fun _ _ o e => V.ptr 0 0 o e) (d ++ [c]) = (a.take (d ++ [c]).length).map f ∧ (V.labelsLL (d ++ [c])).Nodup ∧ (∀ z ∈ V.labelsLL (d ++ [c]), 2 ≤ z ∧ z < m + 1) ∧ 1 ≤ m := by
  have hl : (d ++ [c]).length = d.length + 1 := by simp
  have hlab : V.labelsLL (d ++ [c]) = V.labelsLL d ++ V.labelsL c := by rw [labelsLL_app]; show V.labelsLL d ++ (V.labelsL c ++ []) = _; rw [List.append_nil]
  refine ⟨by omega, ?_, ?_, ?_, by omega⟩
  · rw [hl, List.take_succ_eq_append_getElem hi, List.map_append, ← h1, travLL_eq, List.map_append, ← travLL_eq]
    show _ ++ [V.travL _ _ _ c] = _
    rw [hc1]; rfl
  · rw [hlab, List.nodup_append]
    exact ⟨h2, hc2, fun y hy z hz h => by have := h3 y hy; have := hc3 z hz; omega⟩
  · intro z hz
    rw [hlab, List.mem_append] at hz
    rcases hz with hz | hz
    · have := h3 z hz; omega
    · have := hc3 z hz; omega
theorem lab_rep {n : Nat} {c : List V} (h : V.labelsL c = []) : V.labelsLL (List.replicate n c) = [] := by
  induction n with
  | zero => rfl
  | succ n ih => rw [List.replicate_succ]; show V.labelsL c ++ V.labelsLL _ = []; rw [h, ih]; rfl
end Go.Proofs.Ytjhfabimacljhaa.K
