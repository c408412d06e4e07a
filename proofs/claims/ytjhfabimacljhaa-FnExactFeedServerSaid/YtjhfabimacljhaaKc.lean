/- A value of new memory, read again under other labels: what a call hands back is new memory, named anew by whoever called. Nothing here depends on the program. -/
import Derived.Test.YtjhfabimacljhaaKb
namespace Go.Proofs.Ytjhfabimacljhaa.K
open Go Go.RowKit

mutual
/-- How many labels. -/
def V.cnt : V → Nat
  | .sl _ _ _ es => 1 + V.cntLL es
  | .ptr _ _ _ e => 1 + V.cntL e
  | .fn _ caps => V.cntL caps
  | .agg cs => V.cntL cs
  | .tup vs => V.cntL vs
  | .any => 0
  | .bool _ => 0
  | .int _ _ => 0
  | .str _ => 0
  | .nil _ => 0
  | .nilP => 0
def V.cntL : List V → Nat
  | [] => 0
  | x :: xs => V.cnt x + V.cntL xs
def V.cntLL : List (List V) → Nat
  | [] => 0
  | e :: es => V.cntL e + V.cntLL es
end
mutual
/-- Named anew, from n on. -/
def V.tag (n : Nat) : V → V
  | .sl _ sz _ es => .sl n sz 0 (V.tagLL (n + 1) es)
  | .ptr _ i o e => .ptr n i o (V.tagL (n + 1) e)
  | .fn f caps => .fn f (V.tagL n caps)
  | .agg cs => .agg (V.tagL n cs)
  | .tup vs => .tup (V.tagL n vs)
  | .any => .any
  | .bool b => .bool b
  | .int k m => .int k m
  | .str s => .str s
  | .nil sz => .nil sz
  | .nilP => .nilP
def V.tagL (n : Nat) : List V → List V
  | [] => []
  | x :: xs => V.tag n x :: V.tagL (n + V.cnt x) xs
def V.tagLL (n : Nat) : List (List V) → List (List V)
  | [] => []
  | e :: es => V.tagL n e :: V.tagLL (n + V.cntL e) es
end
mutual
/-- Made of numbers, flags, texts and slices alone. -/
def V.dat : V → Bool
  | .sl _ _ off es => off == 0 && V.datLL es
  | .ptr .. => false
  | .fn .. => false
  | .agg cs => V.datL cs
  | .tup vs => V.datL vs
  | .any => false
  | .bool _ => true
  | .int _ _ => true
  | .str _ => true
  | .nil _ => false
  | .nilP => false
def V.datL : List V → Bool
  | [] => true
  | x :: xs => V.dat x && V.datL xs
def V.datLL : List (List V) → Bool
  | [] => true
  | e :: es => V.datL e && V.datLL es
end

mutual
theorem tag_labels : ∀ (X : V) (n : Nat), (V.tag n X).labels = List.range' n (V.cnt X)
  | .sl _ sz _ es, n => by simp only [V.tag, V.labels, V.cnt, tagLL_labels es (n + 1)]; rw [Nat.add_comm 1]; rfl
  | .ptr _ i o e, n => by simp only [V.tag, V.labels, V.cnt, tagL_labels e (n + 1)]; rw [Nat.add_comm 1]; rfl
  | .fn f caps, n => by simp only [V.tag, V.labels, V.cnt, tagL_labels caps n]
  | .agg cs, n => by simp only [V.tag, V.labels, V.cnt, tagL_labels cs n]
  | .tup vs, n => by simp only [V.tag, V.labels, V.cnt, tagL_labels vs n]
  | .any, n => rfl
  | .bool _, n => rfl
  | .int _ _, n => rfl
  | .str _, n => rfl
  | .nil _, n => rfl
  | .nilP, n => rfl
theorem tagL_labels : ∀ (l : List V) (n : Nat), V.labelsL (V.tagL n l) = List.range' n (V.cntL l)
  | [], n => rfl
  | x :: xs, n => by simp only [V.tagL, V.labelsL, V.cntL, tag_labels x n, tagL_labels xs (n + V.cnt x)]; rw [List.range'_append_1]
theorem tagLL_labels : ∀ (l : List (List V)) (n : Nat), V.labelsLL (V.tagLL n l) = List.range' n (V.cntLL l)
  | [], n => rfl
  | e :: es, n => by simp only [V.tagLL, V.labelsLL, V.cntLL, tagL_labels e n, tagLL_labels es (n + V.cntL e)]; rw [List.range'_append_1]
end
mutual
theorem tag_erase : ∀ (X : V) (n : Nat), V.dat X = true → V.erase (V.tag n X) = V.erase X
  | .sl _ sz _ es, n, h => by
    simp only [V.dat, Bool.and_eq_true] at h
    show V.sl 0 sz 0 (V.eraseLL (V.tagLL (n + 1) es)) = .sl 0 sz 0 (V.eraseLL es)
    rw [tagLL_erase es _ h.2]
  | .ptr .., n, h => by simp [V.dat] at h
  | .fn .., n, h => by simp [V.dat] at h
  | .agg cs, n, h => by
    simp only [V.dat] at h
    show V.agg (V.eraseL (V.tagL n cs)) = .agg (V.eraseL cs)
    rw [tagL_erase cs _ h]
  | .tup cs, n, h => by
    simp only [V.dat] at h
    show V.tup (V.eraseL (V.tagL n cs)) = .tup (V.eraseL cs)
    rw [tagL_erase cs _ h]
  | .any, n, h => rfl
  | .bool _, n, h => rfl
  | .int _ _, n, h => rfl
  | .str _, n, h => rfl
  | .nil _, n, h => by simp [V.dat] at h
  | .nilP, n, h => rfl
theorem tagL_erase : ∀ (l : List V) (n : Nat), V.datL l = true → V.eraseL (V.tagL n l) = V.eraseL l
  | [], n, h => rfl
  | x :: xs, n, h => by
    simp only [V.datL, Bool.and_eq_true] at h
    show V.erase (V.tag n x) :: V.eraseL (V.tagL (n + V.cnt x) xs) = V.erase x :: V.eraseL xs
    rw [tag_erase x n h.1, tagL_erase xs _ h.2]
theorem tagLL_erase : ∀ (l : List (List V)) (n : Nat), V.datLL l = true → V.eraseLL (V.tagLL n l) = V.eraseLL l
  | [], n, h => rfl
  | x :: xs, n, h => by
    simp only [V.datLL, Bool.and_eq_true] at h
    show V.eraseL (V.tagL n x) :: V.eraseLL (V.tagLL (n + V.cntL x) xs) = V.eraseL x :: V.eraseLL xs
    rw [tagL_erase x n h.1, tagLL_erase xs _ h.2]
end
mutual
theorem tag_dat : ∀ (X : V) (n : Nat), V.dat X = true → V.dat (V.tag n X) = true
  | .sl _ sz off es, n, h => by
    simp only [V.dat, Bool.and_eq_true] at h
    simp only [V.tag, V.dat, Bool.and_eq_true]
    exact ⟨rfl, tagLL_dat es _ h.2⟩
  | .ptr .., n, h => by simp [V.dat] at h
  | .fn .., n, h => by simp [V.dat] at h
  | .agg cs, n, h => tagL_dat cs n h
  | .tup cs, n, h => tagL_dat cs n h
  | .any, n, h => by simp [V.dat] at h
  | .bool _, n, h => rfl
  | .int _ _, n, h => rfl
  | .str _, n, h => rfl
  | .nil _, n, h => by simp [V.dat] at h
  | .nilP, n, h => by simp [V.dat] at h
theorem tagL_dat : ∀ (l : List V) (n : Nat), V.datL l = true → V.datL (V.tagL n l) = true
  | [], n, h => rfl
  | x :: xs, n, h => by
    simp only [V.datL, Bool.and_eq_true] at h
    simp only [V.tagL, V.datL, Bool.and_eq_true]
    exact ⟨tag_dat x n h.1, tagL_dat xs _ h.2⟩
theorem tagLL_dat : ∀ (l : List (List V)) (n : Nat), V.datLL l = true → V.datLL (V.tagLL n l) = true
  | [], n, h => rfl
  | x :: xs, n, h => by
    simp only [V.datLL, Bool.and_eq_true] at h
    simp only [V.tagLL, V.datLL, Bool.and_eq_true]
    exact ⟨tagL_dat x n h.1, tagLL_dat xs _ h.2⟩
end

/-- A naming of blocks, each block once. -/
def Inj (σ : Sig) : Prop := ∀ L L' b o s o' s', σ L = some (b, o, s) → σ L' = some (b, o', s') → L = L'
/-- The blocks that a naming gives to some labels. -/
def blocks (σ : Sig) (ls : List Nat) (b : Nat) : Prop := ∃ L ∈ ls, ∃ o s, σ L = some (b, o, s)
/-- σ' names blocks of σ's labels ls by labels of ls' alone. -/
structure Sub (σ : Sig) (ls : List Nat) (σ' : Sig) (ls' : List Nat) : Prop where
  dom : ∀ L b o s, σ' L = some (b, o, s) → L ∈ ls' ∧ blocks σ ls b
  inj : Inj σ'
/-- Both namings at once. -/
def both (σ σ' : Sig) : Sig := fun L => (σ L).or (σ' L)
theorem both_left {σ σ' : Sig} {L b o s : Nat} (h : σ L = some (b, o, s)) : both σ σ' L = some (b, o, s) := by simp [both, h]
theorem both_right {σ σ' : Sig} {L b o s : Nat} (hn : σ L = none) (h : σ' L = some (b, o, s)) : both σ σ' L = some (b, o, s) := by simp [both, hn, h]
theorem both_cases {σ σ' : Sig} {L : Nat} {x : Nat × Nat × Nat} (h : both σ σ' L = some x) : σ L = some x ∨ σ' L = some x := by
  unfold both at h
  cases hl : σ L with
  | none => rw [hl] at h; exact .inr h
  | some y => rw [hl] at h; exact .inl h

/-- Two parts with no block and no label in common. -/
theorem Sub.both {σ σ1 σ2 : Sig} {l1 l2 m1 m2 : List Nat} (hσ : Inj σ) (h1 : Sub σ l1 σ1 m1) (h2 : Sub σ l2 σ2 m2) (hl : ∀ L ∈ l1, L ∉ l2) (_hm : ∀ L ∈ m1, L ∉ m2) : Sub σ (l1 ++ l2) (both σ1 σ2) (m1 ++ m2) := by
  have hfar : ∀ L L' b o s o' s', σ1 L = some (b, o, s) → σ2 L' = some (b, o', s') → False := by
    intro L L' b o s o' s' ha hb
    obtain ⟨_, L1, hL1, o1, s1, e1⟩ := h1.dom L b o s ha
    obtain ⟨_, L2, hL2, o2, s2, e2⟩ := h2.dom L' b o' s' hb
    have := hσ L1 L2 b _ _ _ _ e1 e2
    subst this
    exact hl _ hL1 hL2
  refine ⟨?_, ?_⟩
  · intro L b o s h
    rcases both_cases h with h | h
    · obtain ⟨ha, L1, hL1, r⟩ := h1.dom L b o s h
      exact ⟨List.mem_append_left _ ha, L1, List.mem_append_left _ hL1, r⟩
    · obtain ⟨ha, L1, hL1, r⟩ := h2.dom L b o s h
      exact ⟨List.mem_append_right _ ha, L1, List.mem_append_right _ hL1, r⟩
  · intro L L' b o s o' s' ha hb
    rcases both_cases ha with ha | ha <;> rcases both_cases hb with hb | hb
    · exact h1.inj L L' b _ _ _ _ ha hb
    · exact (hfar L L' b _ _ _ _ ha hb).elim
    · exact (hfar L' L b _ _ _ _ hb ha).elim
    · exact h2.inj L L' b _ _ _ _ ha hb

/-- More names change no reading of what has names throughout. -/
theorem M.more {b1 b2 : Base} {σ σ' : Sig} {w : World} (h : ∀ L b o s, σ L = some (b, o, s) → σ' L = some (b, o, s)) {X : V} {v : Value} (hz : 0 ∉ V.labels X) (hm : M b1 σ w X v) : M b2 σ' w X v := by
  refine hm.as fun L hL sz pos room ad hat => ?_
  rcases hat with ⟨h0, _⟩ | ⟨b, o, cur, e, fr, hs, rest⟩
  · exact absurd (h0 ▸ hL) hz
  · exact .inr ⟨b, o, cur, e, fr, h L b o sz hs, rest⟩

/-- 'r' reads as 'X' too, whose labels are others: same content. -/
def Same (base : Base) (σ : Sig) (w : World) (r X : V) (v : Value) : Prop := ∃ σ', Sub σ (V.labels r) σ' (V.labels X) ∧ M base σ' w X v

/-- No name at all. -/
def noSig : Sig := fun _ => none
theorem sub_none (σ : Sig) (l m : List Nat) : Sub σ l noSig m := ⟨fun _ _ _ _ h => by simp [noSig] at h, fun _ _ _ _ _ _ _ h => by simp [noSig] at h⟩
section
variable {base : Base} {σ : Sig} {w : World}
mutual
/-- New memory reads under any other labels. -/
theorem relabel (hσ : Inj σ) : ∀ (X r : V) (v : Value), M base σ w r v → V.erase r = V.erase X → V.dat X = true → 0 ∉ V.labels r → 0 ∉ V.labels X → (V.labels r).Nodup → (V.labels X).Nodup →
    ∃ σ', Sub σ (V.labels r) σ' (V.labels X) ∧ M base σ' w X v
  | .sl L' sz' off' es', r, v, hm, he, hd, hz, hz', hn, hn' => by
    simp only [V.dat, Bool.and_eq_true, beq_iff_eq] at hd
    obtain ⟨rfl, hd⟩ := hd
    have he' : V.erase r = .sl 0 sz' 0 (V.eraseLL es') := he
    cases hm with
    | nil sz A =>
      have h1 : V.sl 0 sz 0 [] = .sl 0 sz' 0 (V.eraseLL es') := he'
      simp only [V.sl.injEq, true_and] at h1
      have : es' = [] := by
        have := congrArg List.length h1.2
        unfold V.eraseLL at this
        rw [travLL_len] at this
        exact List.eq_nil_of_length_eq_zero this.symm
      subst this
      exact ⟨noSig, sub_none _ _ _, .sl L' sz' 0 [] A 0 (fun _ _ => undef) (Nat.le_refl _) (Nat.zero_le _) (by simp) (.inr (.inl rfl)) (by simp) (by simp)⟩
    | sl L sz off es A cap u h1 h2 h3 h4 h5 h6 =>
      have h1' : V.sl 0 sz 0 (V.eraseLL es) = .sl 0 sz' 0 (V.eraseLL es') := he'
      simp only [V.sl.injEq, true_and] at h1'
      obtain ⟨rfl, hes⟩ := h1'
      have hlen : es.length = es'.length := by
        have := congrArg List.length hes
        unfold V.eraseLL at this
        rw [travLL_len, travLL_len] at this
        exact this
      simp only [V.labels, List.mem_cons, not_or] at hz hz'
      simp only [V.labels, List.nodup_cons] at hn hn'
      rcases h4 with ⟨h0, _⟩ | hcap | ⟨ad, hA, hat⟩
      · exact absurd h0.symm hz.1
      · have hnil : es = [] := List.eq_nil_of_length_eq_zero (by omega)
        subst hnil
        have hnil' : es' = [] := List.eq_nil_of_length_eq_zero (by simpa using hlen.symm)
        subst hnil'
        exact ⟨noSig, sub_none _ _ _, .sl L' sz 0 [] A cap u (Nat.zero_le _) h2 (by simp) (.inr (.inl hcap)) (by simp) (by simp)⟩
      · rcases hat with ⟨h0, _⟩ | ⟨b, o, cur, et, fr, hs, rfl, hh, hnf, hroom⟩
        · exact absurd h0.symm hz.1
        · obtain ⟨σ1, hsub, hM⟩ := relabelLL hσ es' es u h6 hes hd hz.2 hz'.2 hn.2 hn'.2
          let σ0 : Sig := fun q => if q = L' then some (b, o + off * sz, sz) else none
          have h0 : Sub σ [L] σ0 [L'] := by
            refine ⟨?_, ?_⟩
            · intro q b1 o1 s1 h
              simp only [σ0] at h
              split at h
              · rename_i hq
                obtain ⟨rfl, rfl, rfl⟩ : b = b1 ∧ o + off * sz = o1 ∧ sz = s1 := by simpa using h
                exact ⟨by simp [hq], L, by simp, o, sz, hs⟩
              · cases h
            · intro q q' b1 o1 s1 o2 s2 h h'
              simp only [σ0] at h h'
              split at h <;> split at h' <;> simp_all
          have hb := Sub.both hσ h0 hsub (by simpa using hn.1) (by simpa using hn'.1)
          refine ⟨both σ0 σ1, hb, ?_⟩
          rw [hlen]
          have hσ0 : both σ0 σ1 L' = some (b, o + off * sz, sz) := both_left (by simp [σ0])
          have hmore : ∀ q b1 o1 s1, σ1 q = some (b1, o1, s1) → both σ0 σ1 q = some (b1, o1, s1) := by
            intro q b1 o1 s1 h
            refine both_right ?_ h
            have := (hsub.dom q b1 o1 s1 h).1
            simp only [σ0]
            rw [if_neg]
            rintro rfl
            exact hn'.1 this
          have hpos : ∀ (j : Nat) e' (c : Nat) x', es'[j]? = some e' → e'[c]? = some x' → ∃ e x, es[j]? = some e ∧ e[c]? = some x := by
            intro j e' c x' hj hc
            have h1 := congrArg (fun l => l[j]?) hes
            simp only [V.eraseLL, travLL_get, hj, Option.map_some] at h1
            obtain ⟨e, hje, hee⟩ := Option.map_eq_some_iff.1 h1
            have h2 := congrArg (fun l => l[c]?) hee
            simp only [travL_get, hc, Option.map_some] at h2
            obtain ⟨x, hcx, _⟩ := Option.map_eq_some_iff.1 h2
            exact ⟨e, x, hje, hcx⟩
          refine .sl L' sz 0 es' A cap u (by omega) h2 ?_ (.inr (.inr ⟨_, hA, .inr ⟨b, o + off * sz, cur, et, fr, hσ0, by simp, hh, hnf, by omega⟩⟩)) ?_ ?_
          · intro e' he'
            obtain ⟨j, hj⟩ := List.mem_iff_getElem?.1 he'
            have h1 := congrArg (fun l => l[j]?) hes
            simp only [V.eraseLL, travLL_get, hj, Option.map_some] at h1
            obtain ⟨e, hje, hee⟩ := Option.map_eq_some_iff.1 h1
            have h2 := congrArg List.length hee
            rw [travL_len, travL_len] at h2
            rw [← h2]
            exact h3 e (List.mem_of_getElem? hje)
          · intro ad hA2 j e' c x' hj hc
            obtain ⟨e, x, hje, hcx⟩ := hpos j e' c x' hj hc
            exact h5 ad hA2 j e c x hje hcx
          · intro j e' c x' hj hc
            exact M.more hmore (fun h => hz'.2 (labels_in hj hc h)) (hM j e' c x' hj hc)
    | any => cases he'
    | bool => cases he'
    | int => cases he'
    | str => cases he'
    | nilP => cases he'
    | ptr => cases he'
    | fn => cases he'
    | agg => cases he'
    | tup => cases he'
  | .agg cs', r, v, hm, he, hd, hz, hz', hn, hn' => by
    have he' : V.erase r = .agg (V.eraseL cs') := he
    cases hm with
    | agg cs vs h1 h6 =>
      have h1' : V.agg (V.eraseL cs) = .agg (V.eraseL cs') := he'
      simp only [V.agg.injEq] at h1'
      have hlen : cs.length = cs'.length := by
        have := congrArg List.length h1'
        unfold V.eraseL at this
        rw [travL_len, travL_len] at this
        exact this
      obtain ⟨σ1, hsub, hM⟩ := relabelL hσ cs' cs (fun c => vs.getD c undef) (fun c x hx => h6 c x _ hx (by
        have hc := (List.getElem?_eq_some_iff.1 hx).1
        rw [List.getD_eq_getElem?_getD, List.getElem?_eq_getElem (by omega)]; rfl)) h1' hd hz hz' hn hn'
      refine ⟨σ1, hsub, .agg cs' vs (by omega) fun c x u hx hu => ?_⟩
      have := hM c x hx
      rw [List.getD_eq_getElem?_getD, hu] at this
      exact this
    | any => cases he'
    | bool => cases he'
    | int => cases he'
    | str => cases he'
    | nil => cases he'
    | nilP => cases he'
    | ptr => cases he'
    | fn => cases he'
    | sl => cases he'
    | tup => cases he'
  | .tup cs', r, v, hm, he, hd, hz, hz', hn, hn' => by
    have he' : V.erase r = .tup (V.eraseL cs') := he
    cases hm with
    | tup cs vs h1 h6 =>
      have h1' : V.tup (V.eraseL cs) = .tup (V.eraseL cs') := he'
      simp only [V.tup.injEq] at h1'
      have hlen : cs.length = cs'.length := by
        have := congrArg List.length h1'
        unfold V.eraseL at this
        rw [travL_len, travL_len] at this
        exact this
      obtain ⟨σ1, hsub, hM⟩ := relabelL hσ cs' cs (fun c => vs.getD c undef) (fun c x hx => h6 c x _ hx (by
        have hc := (List.getElem?_eq_some_iff.1 hx).1
        rw [List.getD_eq_getElem?_getD, List.getElem?_eq_getElem (by omega)]; rfl)) h1' hd hz hz' hn hn'
      refine ⟨σ1, hsub, .tup cs' vs (by omega) fun c x u hx hu => ?_⟩
      have := hM c x hx
      rw [List.getD_eq_getElem?_getD, hu] at this
      exact this
    | any => cases he'
    | bool => cases he'
    | int => cases he'
    | str => cases he'
    | nil => cases he'
    | nilP => cases he'
    | ptr => cases he'
    | fn => cases he'
    | sl => cases he'
    | agg => cases he'
  | .ptr .., r, v, hm, he, hd, hz, hz', hn, hn' => by simp [V.dat] at hd
  | .fn .., r, v, hm, he, hd, hz, hz', hn, hn' => by simp [V.dat] at hd
  | .any, r, v, hm, he, hd, hz, hz', hn, hn' => by simp [V.dat] at hd
  | .nil _, r, v, hm, he, hd, hz, hz', hn, hn' => by simp [V.dat] at hd
  | .nilP, r, v, hm, he, hd, hz, hz', hn, hn' => by simp [V.dat] at hd
  | .bool b', r, v, hm, he, hd, hz, hz', hn, hn' => by
    have he' : V.erase r = .bool b' := he
    cases hm <;> first | cases he' | skip
    exact ⟨noSig, sub_none _ _ _, .bool _⟩
  | .int k' n', r, v, hm, he, hd, hz, hz', hn, hn' => by
    have he' : V.erase r = .int k' n' := he
    cases hm <;> first | cases he' | skip
    exact ⟨noSig, sub_none _ _ _, .int _ _⟩
  | .str s', r, v, hm, he, hd, hz, hz', hn, hn' => by
    have he' : V.erase r = .str s' := he
    cases hm <;> first | cases he' | skip
    exact ⟨noSig, sub_none _ _ _, .str _⟩
theorem relabelL (hσ : Inj σ) : ∀ (l rs : List V) (u : Nat → Value), (∀ (c : Nat) x, rs[c]? = some x → M base σ w x (u c)) → V.eraseL rs = V.eraseL l → V.datL l = true → 0 ∉ V.labelsL rs → 0 ∉ V.labelsL l →
    (V.labelsL rs).Nodup → (V.labelsL l).Nodup → ∃ σ', Sub σ (V.labelsL rs) σ' (V.labelsL l) ∧ ∀ (c : Nat) x, l[c]? = some x → M base σ' w x (u c)
  | [], rs, u, hm, he, hd, hz, hz', hn, hn' => ⟨noSig, sub_none _ _ _, by simp⟩
  | x' :: l, [], u, hm, he, hd, hz, hz', hn, hn' => by
    have he' : ([] : List V) = V.erase x' :: V.eraseL l := he
    cases he'
  | x' :: l, x :: rs, u, hm, he, hd, hz, hz', hn, hn' => by
    have he' : V.erase x :: V.eraseL rs = V.erase x' :: V.eraseL l := he
    simp only [List.cons.injEq] at he'
    simp only [V.datL, Bool.and_eq_true] at hd
    simp only [V.labelsL, List.mem_append, not_or] at hz hz'
    simp only [V.labelsL, List.nodup_append] at hn hn'
    obtain ⟨σ1, hs1, hM1⟩ := relabel hσ x' x (u 0) (hm 0 x rfl) he'.1 hd.1 hz.1 hz'.1 hn.1 hn'.1
    obtain ⟨σ2, hs2, hM2⟩ := relabelL hσ l rs (fun c => u (c + 1)) (fun c y hy => hm (c + 1) y hy) he'.2 hd.2 hz.2 hz'.2 hn.2.1 hn'.2.1
    have hb := Sub.both hσ hs1 hs2 (fun L h1 h2 => hn.2.2 L h1 L h2 rfl) (fun L h1 h2 => hn'.2.2 L h1 L h2 rfl)
    refine ⟨both σ1 σ2, hb, fun c y hy => ?_⟩
    cases c with
    | zero =>
      obtain rfl := Option.some.inj hy
      exact M.more (fun L b o s h => both_left h) hz'.1 hM1
    | succ c =>
      refine M.more (fun L b o s h => ?_) (fun h => hz'.2 (labels_in1 hy h)) (hM2 c y hy)
      refine both_right ?_ h
      cases h1 : σ1 L with
      | none => rfl
      | some p =>
        obtain ⟨b1, o1, s1⟩ := p
        exact absurd rfl (hn'.2.2 L (hs1.dom L b1 o1 s1 h1).1 L (hs2.dom L b o s h).1)
theorem relabelLL (hσ : Inj σ) : ∀ (l rs : List (List V)) (u : Nat → Nat → Value), (∀ (j : Nat) e (c : Nat) x, rs[j]? = some e → e[c]? = some x → M base σ w x (u j c)) → V.eraseLL rs = V.eraseLL l → V.datLL l = true →
    0 ∉ V.labelsLL rs → 0 ∉ V.labelsLL l → (V.labelsLL rs).Nodup → (V.labelsLL l).Nodup → ∃ σ', Sub σ (V.labelsLL rs) σ' (V.labelsLL l) ∧ ∀ (j : Nat) e (c : Nat) x, l[j]? = some e → e[c]? = some x → M base σ' w x (u j c)
  | [], rs, u, hm, he, hd, hz, hz', hn, hn' => ⟨noSig, sub_none _ _ _, by simp⟩
  | x' :: l, [], u, hm, he, hd, hz, hz', hn, hn' => by
    have he' : ([] : List (List V)) = V.eraseL x' :: V.eraseLL l := he
    cases he'
  | x' :: l, x :: rs, u, hm, he, hd, hz, hz', hn, hn' => by
    have he' : V.eraseL x :: V.eraseLL rs = V.eraseL x' :: V.eraseLL l := he
    simp only [List.cons.injEq] at he'
    simp only [V.datLL, Bool.and_eq_true] at hd
    simp only [V.labelsLL, List.mem_append, not_or] at hz hz'
    simp only [V.labelsLL, List.nodup_append] at hn hn'
    obtain ⟨σ1, hs1, hM1⟩ := relabelL hσ x' x (u 0) (fun c y hy => hm 0 x c y rfl hy) he'.1 hd.1 hz.1 hz'.1 hn.1 hn'.1
    obtain ⟨σ2, hs2, hM2⟩ := relabelLL hσ l rs (fun j => u (j + 1)) (fun j e c y hj hy => hm (j + 1) e c y hj hy) he'.2 hd.2 hz.2 hz'.2 hn.2.1 hn'.2.1
    have hb := Sub.both hσ hs1 hs2 (fun L h1 h2 => hn.2.2 L h1 L h2 rfl) (fun L h1 h2 => hn'.2.2 L h1 L h2 rfl)
    refine ⟨both σ1 σ2, hb, fun j e c y hj hy => ?_⟩
    cases j with
    | zero =>
      obtain rfl := Option.some.inj hj
      exact M.more (fun L b o s h => both_left h) (fun h => hz'.1 (labels_in1 hy h)) (hM1 c y hy)
    | succ j =>
      refine M.more (fun L b o s h => ?_) (fun h => hz'.2 (labels_in hj hy h)) (hM2 j e c y hj hy)
      refine both_right ?_ h
      cases h1 : σ1 L with
      | none => rfl
      | some p =>
        obtain ⟨b1, o1, s1⟩ := p
        exact absurd rfl (hn'.2.2 L (hs1.dom L b1 o1 s1 h1).1 L (hs2.dom L b o s h).1)
end
end
end Go.Proofs.Ytjhfabimacljhaa.K
