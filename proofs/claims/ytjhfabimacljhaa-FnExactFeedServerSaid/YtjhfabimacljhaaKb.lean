/- What a store, a call that only makes memory, and a new naming of blocks do to readings. Nothing here depends on the program. -/
import Derived.Test.YtjhfabimacljhaaKa
namespace Go.Proofs.Ytjhfabimacljhaa.K
open Go Go.RowKit

theorem add_none (b q n : Nat) : (⟨b, q, none⟩ : Addr).add n = ⟨b, q + n, none⟩ := by unfold Addr.add; split <;> simp_all
theorem cell_at {w : World} {b : Nat} {cur : Array Value} {e : TypeId} {fr : Nat × Nat} (h : w.heap[b]? = some (.cells cur e fr)) (q : Nat) : w.cell? ⟨b, q, none⟩ = cur[q]? := by
  simp [World.cell?, h]

/-- A store into element i of the array L0. -/
structure Put (base : Base) (σ : Sig) (w w' : World) (L0 i : Nat) (e' : List V) : Prop where
  ex : ∃ b o sz cur cur' et fr, ∃ u' : Nat → Value, σ L0 = some (b, o, sz) ∧ w.heap[b]? = some (.cells cur et fr) ∧ w'.heap[b]? = some (.cells cur' et fr) ∧ cur'.size = cur.size ∧ base.lim ≤ b ∧
    (∀ q, q < o + i * sz ∨ o + i * sz + sz ≤ q → cur'[q]? = cur[q]?) ∧ (∀ k, k ≠ b → w'.heap[k]? = w.heap[k]?) ∧ (∀ L b2 o2 s2, L ≠ L0 → σ L = some (b2, o2, s2) → b2 ≠ b) ∧ e'.length = sz ∧
    (∀ (c : Nat) x, e'[c]? = some x → cur'[o + i * sz + c]? = some (u' c)) ∧ (∀ (c : Nat) x, e'[c]? = some x → M base σ w' x (u' c))

theorem Put.keeps {base : Base} {σ : Sig} {w w' : World} {L0 i : Nat} {e' : List V} (p : Put base σ w w' L0 i e') : Keeps (some L0) base σ w σ w' := by
  obtain ⟨b, o, sz, cur, cur', et, fr, u', hs, h1, h2, h3, hb, hq, hk, hinj, _⟩ := p.ex
  refine ⟨fun k hk' => ?_, fun L b2 o2 s2 hne h => ⟨h, hk b2 (hinj L b2 o2 s2 (fun e => hne (by rw [e])) h)⟩⟩
  have he := hk k (Ne.symm (hk'.2.1 L0 b o sz hs))
  refine ⟨⟨?_, hk'.2⟩, he⟩
  rw [Array.getElem?_eq_getElem hk'.1] at he
  exact (Array.getElem?_eq_some_iff.1 he).1

theorem idx_far {sz p q c : Nat} (h : p ≠ q) (hc : c < sz) : p * sz + c < q * sz ∨ q * sz + sz ≤ p * sz + c := by
  rcases Nat.lt_or_gt_of_ne h with h | h
  · left
    have : (p + 1) * sz ≤ q * sz := Nat.mul_le_mul_right _ h
    rw [Nat.add_mul] at this; omega
  · right
    have : (q + 1) * sz ≤ p * sz := Nat.mul_le_mul_right _ h
    rw [Nat.add_mul] at this; omega

theorem M.upd {base : Base} {σ : Sig} {w w' : World} {L0 i : Nat} {e' : List V} (h0 : σ 0 = none) (p : Put base σ w w' L0 i e') {X : V} {v : Value} (h : M base σ w X v) : M base σ w' (V.upd L0 i e' X) v := by
  have hkeep := p.keeps
  obtain ⟨b, o, sz0, cur, cur', et, fr, u', hs, hb1, hb2, hsz, hb, hq, hk, hinj, he', hc', hm'⟩ := p.ex
  have hL0 : L0 ≠ 0 := fun e => by rw [e, h0] at hs; cases hs
  induction h with
  | any v => exact .any v
  | bool b => exact .bool b
  | int a b => exact .int a b
  | str s => exact .str s
  | nil sz A => exact .nil sz A
  | nilP => exact .nilP
  | sl L sz off es A cap u h1 h2 h3 h4 h5 h6 ih =>
    have hlen := travLL_len V.nil (updS L0 i e') (updP L0 i e') es
    have hel : ∀ e ∈ V.travLL V.nil (updS L0 i e') (updP L0 i e') es, e.length = sz := by
      intro e he
      rw [travLL_eq] at he
      obtain ⟨e1, he1, rfl⟩ := List.mem_map.1 he
      rw [travL_len]; exact h3 e1 he1
    have hM : ∀ (j : Nat) e (c : Nat) x, (V.travLL V.nil (updS L0 i e') (updP L0 i e') es)[j]? = some e → e[c]? = some x → (∃ e1 x1, es[j]? = some e1 ∧ e1[c]? = some x1) ∧ M base σ w' x (u j c) := by
      intro j e c x he hx
      rw [travLL_get] at he
      obtain ⟨e1, he1, rfl⟩ := Option.map_eq_some_iff.1 he
      rw [travL_get] at hx
      obtain ⟨x1, hx1, rfl⟩ := Option.map_eq_some_iff.1 hx
      exact ⟨⟨e1, x1, he1, hx1⟩, ih j e1 c x1 he1 hx1⟩
    show M base σ w' (updS L0 i e' L sz off (V.travLL V.nil (updS L0 i e') (updP L0 i e') es)) _
    by_cases hL : L = L0
    · subst hL
      rcases h4 with ⟨h0', _⟩ | hcap | ⟨ad, hA, hat⟩
      · exact absurd h0' hL0
      · have hnil : es = [] := List.eq_nil_of_length_eq_zero (by omega)
        subst hnil
        have : updS L i e' L sz off (V.travLL V.nil (updS L i e') (updP L i e') []) = .sl L sz off [] := by
          unfold updS; split <;> simp [V.travLL]
        rw [this]
        exact .sl L sz off [] A cap u h1 h2 (by simp) (.inr (.inl hcap)) (by simp) (by simp)
      · rcases hat with ⟨h0', _⟩ | ⟨b1, o1, cur1, et1, fr1, hs1, rfl, hh1, hnf, hroom⟩
        · exact absurd h0' hL0
        · rw [hs] at hs1
          obtain ⟨rfl, rfl, rfl⟩ : b = b1 ∧ o = o1 ∧ sz0 = sz := by simpa using hs1
          rw [hb1] at hh1
          obtain ⟨rfl, rfl, rfl⟩ : cur = cur1 ∧ et = et1 ∧ fr = fr1 := by simpa using hh1
          have hcell : ∀ (j : Nat) e (c : Nat) x, es[j]? = some e → e[c]? = some x → off + j ≠ i → cur'[o + off * sz0 + (j * sz0 + c)]? = some (u j c) := by
            intro j e c x he hx hne
            have h := h5 _ hA j e c x he hx
            rw [add_none, cell_at hb1] at h
            have hc : c < sz0 := by
              have := h3 e (List.mem_of_getElem? he)
              have := (List.getElem?_eq_some_iff.1 hx).1
              omega
            have hfar := idx_far (p := off + j) (q := i) hne hc
            rw [Nat.add_mul] at hfar
            rw [hq _ (by omega)]
            exact h
          have hat' : At base σ w' L sz0 (off * sz0) (cap * sz0) ⟨b, o + off * sz0, none⟩ := .inr ⟨b, o, cur', et, fr, hs, rfl, hb2, by rw [hsz]; exact hnf, by rw [hsz]; exact hroom⟩
          by_cases hoff : off ≤ i
          · rw [show updS L i e' L sz0 off (V.travLL V.nil (updS L i e') (updP L i e') es) = .sl L sz0 off ((V.travLL V.nil (updS L i e') (updP L i e') es).set (i - off) e') from if_pos ⟨rfl, hoff⟩]
            have hl2 : ((V.travLL V.nil (updS L i e') (updP L i e') es).set (i - off) e').length = es.length := by rw [List.length_set, hlen]
            rw [← hl2]
            refine .sl L sz0 off _ A cap (fun j c => if j = i - off then u' c else u j c) (by rw [hl2]; exact h1) h2 ?_ (.inr (.inr ⟨_, hA, hat'⟩)) ?_ ?_
            · intro e he
              rcases List.mem_or_eq_of_mem_set he with he | rfl
              · exact hel e he
              · exact he'
            · intro ad hA2 j e c x he hx
              rw [hA] at hA2
              obtain rfl := Option.some.inj hA2
              rw [add_none, cell_at hb2]
              by_cases hj : j = i - off
              · rw [if_pos hj]
                subst hj
                rw [List.getElem?_set] at he
                rw [if_pos rfl] at he
                split at he
                · obtain rfl := Option.some.inj he
                  have hpos : o + off * sz0 + ((i - off) * sz0 + c) = o + i * sz0 + c := by
                    have : off * sz0 + (i - off) * sz0 = i * sz0 := by rw [← Nat.add_mul]; congr 1; omega
                    omega
                  rw [hpos]
                  exact hc' c x hx
                · cases he
              · rw [if_neg hj]
                rw [List.getElem?_set_ne (Ne.symm hj)] at he
                obtain ⟨⟨e1, x1, he1, hx1⟩, _⟩ := hM j e c x he hx
                exact hcell j e1 c x1 he1 hx1 (by omega)
            · intro j e c x he hx
              by_cases hj : j = i - off
              · simp only [if_pos hj]
                subst hj
                rw [List.getElem?_set, if_pos rfl] at he
                split at he
                · obtain rfl := Option.some.inj he
                  exact hm' c x hx
                · cases he
              · simp only [if_neg hj]
                rw [List.getElem?_set_ne (Ne.symm hj)] at he
                exact (hM j e c x he hx).2
          · rw [show updS L i e' L sz0 off (V.travLL V.nil (updS L i e') (updP L i e') es) = .sl L sz0 off (V.travLL V.nil (updS L i e') (updP L i e') es) from if_neg (fun h => hoff h.2)]
            rw [← hlen]
            refine .sl L sz0 off _ A cap u (by rw [hlen]; exact h1) h2 hel (.inr (.inr ⟨_, hA, hat'⟩)) ?_ fun j e c x he hx => (hM j e c x he hx).2
            intro ad hA2 j e c x he hx
            rw [hA] at hA2
            obtain rfl := Option.some.inj hA2
            rw [add_none, cell_at hb2]
            obtain ⟨⟨e1, x1, he1, hx1⟩, _⟩ := hM j e c x he hx
            exact hcell j e1 c x1 he1 hx1 (by omega)
    · rw [show updS L0 i e' L sz off (V.travLL V.nil (updS L0 i e') (updP L0 i e') es) = .sl L sz off (V.travLL V.nil (updS L0 i e') (updP L0 i e') es) from if_neg (fun h => hL h.1)]
      have hne' : some L ≠ some L0 := fun e => hL (Option.some.inj e)
      rw [← hlen]
      refine .sl L sz off _ A cap u (by rw [hlen]; exact h1) h2 hel ?_ ?_ fun j e c x he hx => (hM j e c x he hx).2
      · rcases h4 with ⟨h0, rfl⟩ | h0 | ⟨ad, h0, hat⟩
        · exact .inl ⟨h0, rfl⟩
        · exact .inr (.inl h0)
        · exact .inr (.inr ⟨ad, h0, (hat.keep hkeep hne').1⟩)
      · intro ad hA j e c x he hx
        obtain ⟨⟨e1, x1, he1, hx1⟩, _⟩ := hM j e c x he hx
        have := h5 ad hA j e1 c x1 he1 hx1
        rcases h4 with ⟨_, rfl⟩ | h0 | ⟨ad', h0, hat⟩
        · simp at he1
        · have : es.length = 0 := by omega
          rw [List.eq_nil_of_length_eq_zero this] at he1
          simp at he1
        · rw [h0] at hA
          obtain rfl := Option.some.inj hA
          exact (cell_same (w := w) (by rw [add_blk]; exact (hat.keep hkeep hne').2)).trans this
  | ptr L j o2 e ad u h4 h5 h6 ih =>
    have hM : ∀ (c : Nat) x, (V.travL V.nil (updS L0 i e') (updP L0 i e') e)[c]? = some x → (∃ x1, e[c]? = some x1) ∧ M base σ w' x (u c) := by
      intro c x hx
      rw [travL_get] at hx
      obtain ⟨x1, hx1, rfl⟩ := Option.map_eq_some_iff.1 hx
      exact ⟨⟨x1, hx1⟩, ih c x1 hx1⟩
    have hlen := travL_len V.nil (updS L0 i e') (updP L0 i e') e
    show M base σ w' (updP L0 i e' L j o2 (V.travL V.nil (updS L0 i e') (updP L0 i e') e)) _
    by_cases hL : L = L0
    · subst hL
      rcases h4 with ⟨h0', _⟩ | ⟨b1, o1, cur1, et1, fr1, hs1, rfl, hh1, hnf, hroom⟩
      · exact absurd h0' hL0
      · rw [hs] at hs1
        obtain ⟨rfl, rfl, hszz⟩ : b = b1 ∧ o = o1 ∧ sz0 = e.length := by simpa using hs1
        rw [hb1] at hh1
        obtain ⟨rfl, rfl, rfl⟩ : cur = cur1 ∧ et = et1 ∧ fr = fr1 := by simpa using hh1
        by_cases hj : j = i
        · rw [show updP L i e' L j o2 (V.travL V.nil (updS L i e') (updP L i e') e) = .ptr L j o2 e' from if_pos ⟨rfl, hj⟩]
          subst hj
          have hle : e.length = e'.length := by omega
          refine .ptr L j o2 e' _ u' ?_ ?_ hm'
          · rw [← hle]
            exact .inr ⟨b, o, cur', et, fr, by rw [← hszz]; exact hs, rfl, hb2, by rw [hsz]; exact hnf, by rw [hsz]; exact hroom⟩
          · intro c x hx
            rw [add_none, cell_at hb2]
            have := hc' c x hx
            rw [hszz] at this
            exact this
        · rw [show updP L i e' L j o2 (V.travL V.nil (updS L i e') (updP L i e') e) = .ptr L j o2 (V.travL V.nil (updS L i e') (updP L i e') e) from if_neg (fun h => hj h.2)]
          refine .ptr L j o2 _ _ u ?_ ?_ fun c x hx => (hM c x hx).2
          · rw [hlen]
            exact .inr ⟨b, o, cur', et, fr, by rw [← hszz]; exact hs, rfl, hb2, by rw [hsz]; exact hnf, by rw [hsz]; exact hroom⟩
          · intro c x hx
            obtain ⟨x1, hx1⟩ := (hM c x hx).1
            have h := h5 c x1 hx1
            rw [add_none, cell_at hb1] at h
            rw [add_none, cell_at hb2]
            have hc : c < e.length := (List.getElem?_eq_some_iff.1 hx1).1
            have hfar := idx_far (p := j) (q := i) hj hc
            rw [hq _ (by rw [hszz]; omega)]
            exact h
    · rw [show updP L0 i e' L j o2 (V.travL V.nil (updS L0 i e') (updP L0 i e') e) = .ptr L j o2 (V.travL V.nil (updS L0 i e') (updP L0 i e') e) from if_neg (fun h => hL h.1)]
      have hne' : some L ≠ some L0 := fun e => hL (Option.some.inj e)
      refine .ptr L j o2 _ ad u (by rw [hlen]; exact (h4.keep hkeep hne').1) ?_ fun c x hx => (hM c x hx).2
      intro c x hx
      obtain ⟨x1, hx1⟩ := (hM c x hx).1
      exact (cell_same (w := w) (by rw [add_blk]; exact (h4.keep hkeep hne').2)).trans (h5 c x1 hx1)
  | fn f caps vs h1 h6 ih =>
    refine .fn f _ vs (by rw [travL_len]; exact h1) ?_
    intro c x u hx hu
    rw [travL_get] at hx
    obtain ⟨x', hx', rfl⟩ := Option.map_eq_some_iff.1 hx
    exact ih c x' u hx' hu
  | agg caps vs h1 h6 ih =>
    refine .agg _ vs (by rw [travL_len]; exact h1) ?_
    intro c x u hx hu
    rw [travL_get] at hx
    obtain ⟨x', hx', rfl⟩ := Option.map_eq_some_iff.1 hx
    exact ih c x' u hx' hu
  | tup caps vs h1 h6 ih =>
    refine .tup _ vs (by rw [travL_len]; exact h1) ?_
    intro c x u hx hu
    rw [travL_get] at hx
    obtain ⟨x', hx', rfl⟩ := Option.map_eq_some_iff.1 hx
    exact ih c x' u hx' hu
theorem Ms.upd {base : Base} {σ : Sig} {w w' : World} {L0 i : Nat} {e' : List V} (h0 : σ 0 = none) (p : Put base σ w w' L0 i e') {t : List V} {l : List Value} (h : Ms base σ w t l) : Ms base σ w' (V.updL L0 i e' t) l := by
  refine ⟨by unfold V.updL; rw [travL_len]; exact h.1, fun i x u hx hu => ?_⟩
  unfold V.updL at hx
  rw [travL_get] at hx
  obtain ⟨x', hx', rfl⟩ := Option.map_eq_some_iff.1 hx
  exact (h.2 i x' u hx' hu).upd h0 p

/-- Other names. -/
def V.ren (g : Nat → Nat) : V → V := V.trav V.nil (fun L sz off es => .sl (g L) sz off es) (fun L i o e => .ptr (g L) i o e)
def V.renL (g : Nat → Nat) : List V → List V := V.travL V.nil (fun L sz off es => .sl (g L) sz off es) (fun L i o e => .ptr (g L) i o e)
def V.renLL (g : Nat → Nat) : List (List V) → List (List V) := V.travLL V.nil (fun L sz off es => .sl (g L) sz off es) (fun L i o e => .ptr (g L) i o e)
theorem labels_in {es : List (List V)} {j c : Nat} {e : List V} {x : V} {L : Nat} (he : es[j]? = some e) (hx : e[c]? = some x) (h : L ∈ V.labels x) : L ∈ V.labelsLL es :=
  mem_labelsLL.2 ⟨e, List.mem_of_getElem? he, mem_labelsL.2 ⟨x, List.mem_of_getElem? hx, h⟩⟩
theorem labels_in1 {e : List V} {c : Nat} {x : V} {L : Nat} (hx : e[c]? = some x) (h : L ∈ V.labels x) : L ∈ V.labelsL e := mem_labelsL.2 ⟨x, List.mem_of_getElem? hx, h⟩
theorem M.ren {b1 b2 : Base} {σ σ' : Sig} {w : World} (g : Nat → Nat) {X : V} {v : Value} (h : M b1 σ w X v) (H : ∀ L ∈ V.labels X, ∀ sz pos room ad, At b1 σ w L sz pos room ad → At b2 σ' w (g L) sz pos room ad) (H0 : g 0 = 0) : M b2 σ' w (V.ren g X) v := by
  induction h with
  | any v => exact .any v
  | bool b => exact .bool b
  | int a b => exact .int a b
  | str s => exact .str s
  | nil sz A => exact .nil sz A
  | nilP => exact .nilP
  | sl L sz off es A cap u h1 h2 h3 h4 h5 h6 ih =>
    have hlen := travLL_len V.nil (fun L sz off es => .sl (g L) sz off es) (fun L i o e => .ptr (g L) i o e) es
    show M b2 σ' w (.sl (g L) sz off (V.travLL _ _ _ es)) _
    rw [← hlen]
    refine .sl (g L) sz off _ A cap u (by rw [hlen]; exact h1) h2 ?_ ?_ ?_ ?_
    · intro e he
      rw [travLL_eq] at he
      obtain ⟨e1, he1, rfl⟩ := List.mem_map.1 he
      rw [travL_len]; exact h3 e1 he1
    · rcases h4 with ⟨rfl, rfl⟩ | h0 | ⟨ad, h0, hat'⟩
      · exact .inl ⟨H0, rfl⟩
      · exact .inr (.inl h0)
      · exact .inr (.inr ⟨ad, h0, H L (by simp [V.labels]) _ _ _ _ hat'⟩)
    · intro ad hA j e c x he hx
      rw [travLL_get] at he
      obtain ⟨e1, he1, rfl⟩ := Option.map_eq_some_iff.1 he
      rw [travL_get] at hx
      obtain ⟨x1, hx1, rfl⟩ := Option.map_eq_some_iff.1 hx
      exact h5 ad hA j e1 c x1 he1 hx1
    · intro j e c x he hx
      rw [travLL_get] at he
      obtain ⟨e1, he1, rfl⟩ := Option.map_eq_some_iff.1 he
      rw [travL_get] at hx
      obtain ⟨x1, hx1, rfl⟩ := Option.map_eq_some_iff.1 hx
      exact ih j e1 c x1 he1 hx1 fun L' hL' => H L' (by simp only [V.labels, List.mem_cons]; exact .inr (labels_in he1 hx1 hL'))
  | ptr L i o e ad u h4 h5 h6 ih =>
    have hlen := travL_len V.nil (fun L sz off es => .sl (g L) sz off es) (fun L i o e => .ptr (g L) i o e) e
    show M b2 σ' w (.ptr (g L) i o (V.travL _ _ _ e)) _
    refine .ptr (g L) i o _ ad u (by rw [hlen]; exact H L (by simp [V.labels]) _ _ _ _ h4) ?_ ?_
    · intro c x hx
      rw [travL_get] at hx
      obtain ⟨x1, hx1, rfl⟩ := Option.map_eq_some_iff.1 hx
      exact h5 c x1 hx1
    · intro c x hx
      rw [travL_get] at hx
      obtain ⟨x1, hx1, rfl⟩ := Option.map_eq_some_iff.1 hx
      exact ih c x1 hx1 fun L' hL' => H L' (by simp only [V.labels, List.mem_cons]; exact .inr (labels_in1 hx1 hL'))
  | fn f caps vs h1 h6 ih =>
    refine .fn f _ vs (by rw [travL_len]; exact h1) ?_
    intro c x u hx hu
    rw [travL_get] at hx
    obtain ⟨x', hx', rfl⟩ := Option.map_eq_some_iff.1 hx
    exact ih c x' u hx' hu fun L' hL' => H L' (labels_in1 hx' hL')
  | agg caps vs h1 h6 ih =>
    refine .agg _ vs (by rw [travL_len]; exact h1) ?_
    intro c x u hx hu
    rw [travL_get] at hx
    obtain ⟨x', hx', rfl⟩ := Option.map_eq_some_iff.1 hx
    exact ih c x' u hx' hu fun L' hL' => H L' (labels_in1 hx' hL')
  | tup caps vs h1 h6 ih =>
    refine .tup _ vs (by rw [travL_len]; exact h1) ?_
    intro c x u hx hu
    rw [travL_get] at hx
    obtain ⟨x', hx', rfl⟩ := Option.map_eq_some_iff.1 hx
    exact ih c x' u hx' hu fun L' hL' => H L' (labels_in1 hx' hL')
mutual
theorem ren_id : ∀ X : V, V.ren (fun L => L) X = X
  | .sl L sz off es => by show V.sl L sz off (V.renLL _ es) = _; rw [renLL_id es]
  | .ptr L i o e => by show V.ptr L i o (V.renL _ e) = _; rw [renL_id e]
  | .fn f caps => by show V.fn f (V.renL _ caps) = _; rw [renL_id caps]
  | .agg cs => by show V.agg (V.renL _ cs) = _; rw [renL_id cs]
  | .tup cs => by show V.tup (V.renL _ cs) = _; rw [renL_id cs]
  | .any => rfl
  | .bool _ => rfl
  | .int _ _ => rfl
  | .str _ => rfl
  | .nil _ => rfl
  | .nilP => rfl
theorem renL_id : ∀ l : List V, V.renL (fun L => L) l = l
  | [] => rfl
  | x :: xs => by show V.ren _ x :: V.renL _ xs = _; rw [ren_id x, renL_id xs]
theorem renLL_id : ∀ l : List (List V), V.renLL (fun L => L) l = l
  | [] => rfl
  | e :: es => by show V.renL _ e :: V.renLL _ es = _; rw [renL_id e, renLL_id es]
end
/-- In another naming. -/
theorem M.as {b1 b2 : Base} {σ σ' : Sig} {w : World} {X : V} {v : Value} (h : M b1 σ w X v) (H : ∀ L ∈ V.labels X, ∀ sz pos room ad, At b1 σ w L sz pos room ad → At b2 σ' w L sz pos room ad) : M b2 σ' w X v := by
  have := h.ren (b2 := b2) (σ' := σ') (fun L => L) H rfl
  rw [ren_id] at this
  exact this
/-- Looked at by somebody who writes nothing that is there: no labels. -/
theorem M.erase {base base' : Base} {σ σ' : Sig} {w : World} {X : V} {v : Value} (h : M base σ w X v) (H : ∀ L ∈ V.labels X, ∀ sz pos room ad, At base σ w L sz pos room ad → Old base' σ' w ad.block) : M base' σ' w (V.erase X) v := by
  induction h with
  | any v => exact .any v
  | bool b => exact .bool b
  | int a b => exact .int a b
  | str s => exact .str s
  | nil sz A => exact .sl 0 sz 0 [] A 0 (fun _ _ => undef) (Nat.le_refl _) (Nat.zero_le _) (by simp) (.inl ⟨rfl, rfl⟩) (by simp) (by simp)
  | nilP => exact .nilP
  | sl L sz off es A cap u h1 h2 h3 h4 h5 h6 ih =>
    have hlen := travLL_len (fun sz => .sl 0 sz 0 []) (fun _ sz _ es => .sl 0 sz 0 es) (fun _ _ o e => .ptr 0 0 o e) es
    show M base' σ' w (.sl 0 sz 0 (V.travLL _ _ _ es)) _
    rw [← hlen]
    refine .sl 0 sz 0 _ A cap u (by rw [hlen]; exact h1) h2 ?_ ?_ ?_ ?_
    · intro e he
      rw [travLL_eq] at he
      obtain ⟨e1, he1, rfl⟩ := List.mem_map.1 he
      rw [travL_len]; exact h3 e1 he1
    · rcases h4 with ⟨_, rfl⟩ | h0 | ⟨ad, h0, hat'⟩
      · exact .inl ⟨rfl, rfl⟩
      · exact .inr (.inl h0)
      · exact .inr (.inr ⟨ad, h0, .inl ⟨rfl, H L (by simp [V.labels]) _ _ _ _ hat'⟩⟩)
    · intro ad hA j e c x he hx
      rw [travLL_get] at he
      obtain ⟨e1, he1, rfl⟩ := Option.map_eq_some_iff.1 he
      rw [travL_get] at hx
      obtain ⟨x1, hx1, rfl⟩ := Option.map_eq_some_iff.1 hx
      exact h5 ad hA j e1 c x1 he1 hx1
    · intro j e c x he hx
      rw [travLL_get] at he
      obtain ⟨e1, he1, rfl⟩ := Option.map_eq_some_iff.1 he
      rw [travL_get] at hx
      obtain ⟨x1, hx1, rfl⟩ := Option.map_eq_some_iff.1 hx
      exact ih j e1 c x1 he1 hx1 fun L' hL' => H L' (by simp only [V.labels, List.mem_cons]; exact .inr (labels_in he1 hx1 hL'))
  | ptr L i o e ad u h4 h5 h6 ih =>
    have hlen := travL_len (fun sz => .sl 0 sz 0 []) (fun _ sz _ es => .sl 0 sz 0 es) (fun _ _ o e => .ptr 0 0 o e) e
    show M base' σ' w (.ptr 0 0 o (V.travL _ _ _ e)) _
    refine .ptr 0 0 o _ ad u (.inl ⟨rfl, H L (by simp [V.labels]) _ _ _ _ h4⟩) ?_ ?_
    · intro c x hx
      rw [travL_get] at hx
      obtain ⟨x1, hx1, rfl⟩ := Option.map_eq_some_iff.1 hx
      exact h5 c x1 hx1
    · intro c x hx
      rw [travL_get] at hx
      obtain ⟨x1, hx1, rfl⟩ := Option.map_eq_some_iff.1 hx
      exact ih c x1 hx1 fun L' hL' => H L' (by simp only [V.labels, List.mem_cons]; exact .inr (labels_in1 hx1 hL'))
  | fn f caps vs h1 h6 ih =>
    refine .fn f _ vs (by rw [travL_len]; exact h1) ?_
    intro c x u hx hu
    rw [travL_get] at hx
    obtain ⟨x', hx', rfl⟩ := Option.map_eq_some_iff.1 hx
    exact ih c x' u hx' hu fun L' hL' => H L' (labels_in1 hx' hL')
  | agg caps vs h1 h6 ih =>
    refine .agg _ vs (by rw [travL_len]; exact h1) ?_
    intro c x u hx hu
    rw [travL_get] at hx
    obtain ⟨x', hx', rfl⟩ := Option.map_eq_some_iff.1 hx
    exact ih c x' u hx' hu fun L' hL' => H L' (labels_in1 hx' hL')
  | tup caps vs h1 h6 ih =>
    refine .tup _ vs (by rw [travL_len]; exact h1) ?_
    intro c x u hx hu
    rw [travL_get] at hx
    obtain ⟨x', hx', rfl⟩ := Option.map_eq_some_iff.1 hx
    exact ih c x' u hx' hu fun L' hL' => H L' (labels_in1 hx' hL')
theorem At.block_lt {base : Base} {σ : Sig} {w : World} {L sz pos room : Nat} {ad : Addr} (h : At base σ w L sz pos room ad) : ad.block < w.heap.size := by
  rcases h with ⟨_, h⟩ | ⟨b, o, cur, e, _, _, rfl, hh, _, _⟩
  · exact h.1
  · exact (Array.getElem?_eq_some_iff.1 hh).1
/-- By a callee, who has named nothing. -/
theorem Ms.erase {base base' : Base} (hb : ∀ k, ¬ base'.bad k) {σ : Sig} {w : World} {t : List V} {l : List Value} (h : Ms base σ w t l) : Ms base' (fun _ => none) w (V.eraseL t) l := by
  refine ⟨by unfold V.eraseL; rw [travL_len]; exact h.1, fun i x u hx hu => ?_⟩
  unfold V.eraseL at hx
  rw [travL_get] at hx
  obtain ⟨x', hx', rfl⟩ := Option.map_eq_some_iff.1 hx
  exact (h.2 i x' u hx' hu).erase fun L _ _ _ _ _ hat => ⟨hat.block_lt, fun _ _ _ _ h => (by cases h), hb _⟩
end Go.Proofs.Ytjhfabimacljhaa.K
