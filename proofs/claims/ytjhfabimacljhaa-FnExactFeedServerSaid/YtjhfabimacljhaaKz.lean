/- Arguments of a row, read as abstract values. Nothing here depends on the program. -/
import Derived.Test.YtjhfabimacljhaaKv
import Derived.ChangeOld
import Derived.SizedLaws
import Derived.OpenShut
namespace Go.Proofs.Ytjhfabimacljhaa.K
open Go Go.RowKit
set_option linter.unusedVariables false
set_option linter.unusedSimpArgs false

def ShpF (S : TypeId → List V → Prop) : List (Nat × TypeId) → List V → Prop
  | [], xs => xs = []
  | (_, t) :: r, xs => ∃ a b, xs = a ++ b ∧ S t a ∧ ShpF S r b
/-- The form of an argument of a type: no text and no slice longer than B. -/
def Shp (ti : Tab) (B : Nat) : Nat → TypeId → List V → Prop
  | 0, _, _ => False
  | n + 1, t, xs => match ti t with
    | some ⟨.bool, _, _, _⟩ => ∃ b, xs = [.bool b]
    | some ⟨.int k, _, _, _⟩ => ∃ m, xs = [.int k m] ∧ (Lit.int k m).wf = true
    | some ⟨.str, _, _, _⟩ => ∃ s : List UInt8, xs = [.str s] ∧ s.length ≤ B
    | some ⟨.slice e, _, _, _⟩ => ∃ es, xs = [.sl 0 (((ti e).map (·.size)).getD 0) 0 es] ∧ es.length * (((ti e).map (·.bytes)).getD 0) ≤ B ∧ ∀ c ∈ es, Shp ti B n e c
    | some ⟨.struct fs, _, _, _⟩ => ShpF (Shp ti B n) fs xs
    | _ => False
def fieldsOk (ti : Tab) : Nat → List (Nat × TypeId) → Nat → Bool
  | o, [], s => o == s
  | o, (off, t) :: r, s => off == o && (match ti t with | some i => fieldsOk ti (o + i.size) r s | none => false)
def dataT (ti : Tab) : Nat → TypeId → Bool
  | 0, _ => false
  | n + 1, t => match ti t with
    | some ⟨.bool, s, _, _⟩ => s == 1
    | some ⟨.int _, s, _, _⟩ => s == 1
    | some ⟨.str, s, _, _⟩ => s == 1
    | some ⟨.slice e, s, _, _⟩ => s == 1 && (match ti e with | some i => decide (0 < i.size) | none => false) && dataT ti n e
    | some ⟨.struct fs, s, _, _⟩ => fieldsOk ti 0 fs s && fs.all fun p => dataT ti n p.2
    | _ => false

section
variable {K : Nat} {H : Type} {enc : TypeId × Value → H} {P : Program} {W : World} {ti : Tab} {B : Nat} {base : Base}
theorem cellsOf_eq {t : TypeId} {i : TInfo} (h : TOk P t i) : P.cellsOf t = i.size := by
  obtain ⟨x, hx, hs, _⟩ := h.inf
  unfold Program.cellsOf
  rw [hx]
  simpa using hs
theorem bytesOf_eq {t : TypeId} {i : TInfo} (h : TOk P t i) : P.bytesOf t = i.bytes := by
  obtain ⟨x, hx, _, hb, _⟩ := h.inf
  unfold Program.bytesOf
  rw [hx]
  simpa using hb
theorem ms_one {x : V} {v : Value} (h : M base noSig W x v) : Ms base noSig W [x] [v] := by
  refine ⟨rfl, fun i y u hy hu => ?_⟩
  cases i with
  | zero =>
    obtain rfl := Option.some.inj hy
    obtain rfl := Option.some.inj hu
    exact h
  | succ i => simp at hy
theorem weightsAll_mem {e : TypeId} : ∀ {ds : List (DataW H)} {d : DataW H}, d ∈ ds → ∀ x ∈ d.weights P e, x ∈ DataW.weightsAll P e ds
  | [], _, h, _, _ => by cases h
  | d0 :: r, d, h, x, hx => by
    rcases List.mem_cons.1 h with rfl | h
    · exact List.mem_append_left _ hx
    · exact List.mem_append_right _ (weightsAll_mem h x hx)

/-- The fields one behind the other. -/
theorem fields_M {S : TypeId → List V → Prop} (hti : TabOk P ti) {tr : TypeId → List Value → Option (DataW H × List MemPlace)} : ∀ (fs : List Field) (o s : Nat) (cs : List Value) (xs : List (DataW H × List MemPlace)),
    fieldsOk ti o (fs.map fun f => (f.offset, f.type)) s = true → cs.length = s → o ≤ s → (fs.mapM fun f => tr f.type ((cs.drop f.offset).take (P.cellsOf f.type))) = some xs →
    (∀ f ∈ fs, ∀ c d, tr f.type c = some d → (∀ x ∈ d.1.weights P f.type, x ≤ B) → ∃ ys, Ms base noSig W ys c ∧ S f.type ys) → (∀ x ∈ DataW.weightsEach P (fs.map (·.type)) (xs.map (·.1)), x ≤ B) →
    ∃ ys, Ms base noSig W ys (cs.drop o) ∧ ShpF S (fs.map fun f => (f.offset, f.type)) ys
  | [], o, s, cs, xs, hf, hl, ho, hm, hS, hw => by
    simp only [List.map_nil, fieldsOk, beq_iff_eq] at hf
    refine ⟨[], ?_, rfl⟩
    rw [List.drop_eq_nil_of_le (by omega)]
    exact ⟨rfl, by simp⟩
  | f :: fs, o, s, cs, xs, hf, hl, ho, hm, hS, hw => by
    simp only [List.map_cons, fieldsOk, Bool.and_eq_true, beq_iff_eq] at hf
    obtain ⟨hoff, hf⟩ := hf
    split at hf
    · rename_i i hi
      have hsz := cellsOf_eq (hti _ _ hi)
      rw [List.mapM_cons] at hm
      cases h1 : tr f.type ((cs.drop f.offset).take (P.cellsOf f.type)) with
      | none => simp [h1] at hm
      | some d =>
        cases h2 : fs.mapM (fun f => tr f.type ((cs.drop f.offset).take (P.cellsOf f.type))) with
        | none => simp [h1, h2] at hm
        | some ds =>
          obtain rfl : d :: ds = xs := by simpa [h1, h2] using hm
          simp only [List.map_cons, DataW.weightsEach, List.mem_append] at hw
          have hle : o + i.size ≤ s := fieldsOk_le _ hf
          obtain ⟨y1, hm1, hs1⟩ := hS f (List.mem_cons_self ..) _ _ h1 (fun x hx => hw x (.inl hx))
          obtain ⟨y2, hm2, hs2⟩ := fields_M hti fs (o + i.size) s cs ds hf hl hle h2 (fun g hg => hS g (List.mem_cons_of_mem _ hg)) (fun x hx => hw x (.inr hx))
          refine ⟨y1 ++ y2, ?_, y1, y2, rfl, hs1, hs2⟩
          have hsplit : cs.drop o = (cs.drop f.offset).take (P.cellsOf f.type) ++ cs.drop (o + i.size) := by
            rw [hoff, hsz, ← List.drop_drop, List.take_append_drop]
          rw [hsplit]
          exact hm1.append hm2
    · cases hf
where
  fieldsOk_le : ∀ {o : Nat} (fs : List (Nat × TypeId)) {s : Nat}, fieldsOk ti o fs s = true → o ≤ s
    | o, [], s, h => by simp only [fieldsOk, beq_iff_eq] at h; omega
    | o, (off, t) :: r, s, h => by
      simp only [fieldsOk, Bool.and_eq_true] at h
      obtain ⟨_, h⟩ := h
      split at h
      · have := fieldsOk_le r h; omega
      · cases h

theorem trod_M (hti : TabOk P ti) : ∀ (m : Nat) (t : TypeId), dataT ti m t = true → ∀ (n : Nat) (cs : List Value) (d : DataW H) (ps : List MemPlace), (∀ k, ¬ base.bad k) →
    DataW.trod enc P W 0 (fun _ => true) true n t cs = some (d, ps) → (∀ x ∈ d.weights P t, x ≤ B) → ∃ xs, Ms base noSig W xs cs ∧ Shp ti B m t xs := by
  intro m
  induction m with
  | zero => intro t h; simp [dataT] at h
  | succ m ih =>
    intro t hd n cs d ps hb h hw
    cases n with
    | zero => simp [DataW.trod] at h
    | succ n =>
      unfold DataW.trod at h
      simp only [dataT] at hd
      simp only [Shp]
      split at hd
      · rename_i a b z hi
        rw [und_bool (hti _ _ hi) rfl] at h
        split at h
        case h_1 b heq => exact ⟨[.bool b], ms_one (.bool b), b, rfl⟩
        all_goals first | (cases h; done) | (rename_i heq; cases heq; done)
      · rename_i k a b z hi
        rw [und_int (hti _ _ hi) rfl] at h
        split at h
        case h_2 k1 k2 q heq =>
          obtain rfl : k = k1 := by cases heq; rfl
          split at h
          · rename_i hc
            obtain ⟨rfl, hwf⟩ := hc
            exact ⟨[.int _ q], ms_one (.int _ q), q, rfl, hwf⟩
          · cases h
        all_goals first | (cases h; done) | (rename_i heq; cases heq; done)
      · rename_i a b z hi
        rw [und_str (hti _ _ hi) rfl] at h
        split at h
        case h_4 s heq =>
          split at h
          · rename_i hl
            refine ⟨[.str s.data.toList], ms_one (.str s.data.toList), s.data.toList, rfl, ?_⟩
            simp only [Option.some.injEq, Prod.mk.injEq] at h
            obtain ⟨rfl, _⟩ := h
            exact hw _ (by simp [DataW.weights])
          · cases h
        all_goals first | (cases h; done) | (rename_i heq; cases heq; done)
      · rename_i e a b z hi
        have hund := und_slice (hti _ _ hi) rfl
        rw [hund] at h
        simp only [Bool.and_eq_true] at hd
        obtain ⟨⟨_, hpos⟩, hde⟩ := hd
        split at hpos
        · rename_i i hie
          have hpos : 0 < i.size := by simpa using hpos
          have hsz := cellsOf_eq (hti _ _ hie)
          have hby := bytesOf_eq (hti _ _ hie)
          simp only [hie, Option.map_some, Option.getD_some]
          split at h
          case h_7 => exact ⟨[.sl 0 i.size 0 []], ms_one (.sl 0 i.size 0 [] none 0 (fun _ _ => undef) (Nat.le_refl _) (Nat.zero_le _) (by simp) (.inl ⟨rfl, rfl⟩) (by simp) (by simp)), [], rfl, by simp, by simp⟩
          case h_8 e1 ad len cap heq =>
            obtain rfl : e = e1 := by cases heq; rfl
            split at h
            · rename_i hc
              obtain ⟨elems, h1, h⟩ := Option.bind_eq_some_iff.1 h
              obtain ⟨rest, h2, h⟩ := Option.map_eq_some_iff.1 h
              simp only [Prod.mk.injEq] at h
              obtain ⟨rfl, _⟩ := h
              have hlen : elems.length = len := by have := mapM_some_length h1; simpa using this
              rw [show DataW.weights P t (DataW.slice (elems.map (·.1)) (rest.map (·.1))) = ((elems.map (·.1)).length + (rest.map (·.1)).length) * P.bytesOf e :: (DataW.weightsAll P e (elems.map (·.1)) ++ DataW.weightsAll P e (rest.map (·.1))) by simp [DataW.weights, hund]] at hw
              have hall : ∀ j, j < len → ∃ c xs, W.cells? 0 (ad.add (j * i.size)) i.size = some c ∧ Ms base noSig W xs c ∧ Shp ti B m e xs := by
                intro j hj
                have hj' := mapM_some_get h1 j j (by simp [hj])
                have hlt : j < elems.length := by omega
                rw [List.getElem?_eq_getElem hlt] at hj'
                obtain ⟨c, hc1, hc2⟩ := Option.bind_eq_some_iff.1 hj'
                rw [hsz] at hc1
                obtain ⟨xs, hx1, hx2⟩ := ih e hde n c (elems[j]).1 (elems[j]).2 hb hc2 (fun x hx => hw x (by
                  refine List.mem_cons_of_mem _ (List.mem_append_left _ (weightsAll_mem (List.mem_map.2 ⟨elems[j], List.getElem_mem hlt, rfl⟩) x hx))))
                exact ⟨c, xs, hc1, hx1, hx2⟩
              have hcs := fun (j : Fin len) => (hall j.1 j.2).choose_spec
              let C : Fin len → List Value := fun j => (hall j.1 j.2).choose
              have hC : ∀ j : Fin len, ∃ xs, W.cells? 0 (ad.add (j.1 * i.size)) i.size = some (C j) ∧ Ms base noSig W xs (C j) ∧ Shp ti B m e xs := hcs
              let X : Fin len → List V := fun j => (hC j).choose
              have hX : ∀ j : Fin len, W.cells? 0 (ad.add (j.1 * i.size)) i.size = some (C j) ∧ Ms base noSig W (X j) (C j) ∧ Shp ti B m e (X j) := fun j => (hC j).choose_spec
              have hcells : ∀ j : Fin len, (C j).length = i.size ∧ ∀ c, c < i.size → W.cell? ((ad.add (j.1 * i.size)).add c) = (C j)[c]? := fun j => (World.cells?_some (hX j).1).2
              have hXl : ∀ j : Fin len, (X j).length = i.size := fun j => (hX j).2.1.1.trans (hcells j).1
              have hget : ∀ (j : Nat) e', (List.ofFn X)[j]? = some e' → ∃ hj : j < len, e' = X ⟨j, hj⟩ := by
                intro j e' he
                rw [List.getElem?_ofFn] at he
                split at he
                · rename_i hj; exact ⟨hj, (Option.some.inj he).symm⟩
                · cases he
              refine ⟨[.sl 0 i.size 0 (List.ofFn X)], ms_one ?_, List.ofFn X, rfl, ?_, ?_⟩
              · have hl : (List.ofFn X).length = len := by simp
                have hm : M base noSig W (.sl 0 i.size 0 (List.ofFn X)) (.slice (some ad) (List.ofFn X).length cap) := by
                  refine .sl 0 i.size 0 (List.ofFn X) (some ad) cap (fun j c => if hj : j < len then ((C ⟨j, hj⟩)[c]?).getD undef else undef) (by omega) hc.2.2 ?_ ?_ ?_ ?_
                  · intro e' he
                    obtain ⟨j, hj⟩ := List.mem_iff_getElem?.1 he
                    obtain ⟨hj', rfl⟩ := hget j e' hj
                    exact hXl _
                  · by_cases h0 : len = 0
                    · exact .inl ⟨rfl, List.eq_nil_of_length_eq_zero (by omega)⟩
                    · have hlt : 0 < len := by omega
                      have hblk := World.cells?_block (hX ⟨0, hlt⟩).1 hpos
                      rw [add_blk] at hblk
                      exact .inr (.inr ⟨ad, rfl, .inl ⟨rfl, hblk, fun _ _ _ _ h => by simp [noSig] at h, hb _⟩⟩)
                  · intro ad' hA j e' c x hj hx
                    obtain rfl := Option.some.inj hA
                    obtain ⟨hj', rfl⟩ := hget j e' hj
                    have hc' : c < i.size := by have := (List.getElem?_eq_some_iff.1 hx).1; rw [hXl] at this; exact this
                    have hcc := (hcells ⟨j, hj'⟩).2 c hc'
                    rw [add_add'] at hcc
                    rw [hcc, dif_pos hj', List.getElem?_eq_getElem (by rw [(hcells ⟨j, hj'⟩).1]; exact hc')]
                    rfl
                  · intro j e' c x hj hx
                    obtain ⟨hj', rfl⟩ := hget j e' hj
                    have hc' : c < i.size := by have := (List.getElem?_eq_some_iff.1 hx).1; rw [hXl] at this; exact this
                    rw [dif_pos hj']
                    have hlt : c < (C ⟨j, hj'⟩).length := by rw [(hcells ⟨j, hj'⟩).1]; exact hc'
                    rw [List.getElem?_eq_getElem hlt]
                    exact (hX ⟨j, hj'⟩).2.1.2 c x _ hx (List.getElem?_eq_getElem hlt)
                rw [hl] at hm
                exact hm
              · have := hw _ (List.mem_cons_self ..)
                rw [hby] at this
                refine Nat.le_trans ?_ this
                simp only [List.length_ofFn, List.length_map, hlen]
                exact Nat.mul_le_mul_right _ (by omega)
              · intro c hc'
                obtain ⟨j, hj⟩ := List.mem_iff_getElem?.1 hc'
                obtain ⟨hj', rfl⟩ := hget j c hj
                exact (hX ⟨j, hj'⟩).2.2
            · cases h
          all_goals first | (cases h; done) | (rename_i heq; cases heq; done)
        · cases hpos
      · rename_i fs s b z hi
        simp only [Bool.and_eq_true, List.all_eq_true] at hd
        obtain ⟨dsc, hund, hfit, _⟩ := (hti _ _ hi).und
        have hsz := cellsOf_eq (hti _ _ hi)
        cases dsc with
        | struct fields =>
          have hfs : fields.toList.map (fun f => (f.offset, f.type)) = fs := hfit
          rw [hund] at h
          have key : (if cs.length = P.cellsOf t then (fields.toList.mapM fun f => DataW.trod enc P W 0 (fun _ => true) true n f.type ((cs.drop f.offset).take (P.cellsOf f.type))).map fun xs => (DataW.agg (xs.map (·.1)), xs.flatMap (·.2)) else none) = some (d, ps) := by
            split at h
            case h_9 f1 heq =>
              obtain rfl : fields = f1 := by cases heq; rfl
              exact h
            all_goals first | (cases h; done) | (rename_i heq; cases heq; done) | (exfalso; simp_all; done)
          split at key
          · rename_i hl
            obtain ⟨xs, h1, h2⟩ := Option.map_eq_some_iff.1 key
            simp only [Prod.mk.injEq] at h2
            obtain ⟨rfl, _⟩ := h2
            rw [show DataW.weights P t (DataW.agg (xs.map (·.1))) = DataW.weightsEach P (fields.toList.map (·.type)) (xs.map (·.1)) by simp [DataW.weights, hund]] at hw
            have := fields_M (S := Shp ti B m) (base := base) (W := W) (B := B) hti fields.toList 0 s cs xs (by rw [hfs]; exact hd.1) (by rw [hl]; exact hsz) (Nat.zero_le _) h1
              (fun f hf c dd hc hw' => ih f.type (hd.2 (f.offset, f.type) (by rw [← hfs]; exact List.mem_map.2 ⟨f, hf, rfl⟩)) n c dd.1 dd.2 hb hc hw') hw
            rw [List.drop_zero, hfs] at this
            exact this
          · cases key
        | _ => exact hfit.elim
      · cases hd
theorem trod_spare (hti : TabOk P ti) : ∀ (m : Nat) (t : TypeId), dataT ti m t = true → ∀ (n : Nat) (cs : List Value) (x : DataW H × List MemPlace),
    DataW.trod enc P W 0 (fun _ => true) true n t cs = some x → DataW.trod enc P W 0 (fun b => decide (b < K)) true n t cs = some x ∨ W.heap.size ≠ K := by
  intro m
  by_cases hK : W.heap.size = K
  case neg => exact fun _ _ _ _ _ _ => .inr hK
  subst hK
  have main : ∀ (m : Nat) (t : TypeId), dataT ti m t = true → ∀ (n : Nat) (cs : List Value) (x : DataW H × List MemPlace),
      DataW.trod enc P W 0 (fun _ => true) true n t cs = some x → DataW.trod enc P W 0 (fun b => decide (b < W.heap.size)) true n t cs = some x := by
    intro m
    induction m with
    | zero => intro t h; simp [dataT] at h
    | succ m ih =>
      intro t hd n cs x h
      cases n with
      | zero => simp [DataW.trod] at h
      | succ n =>
        simp only [dataT] at hd
        unfold DataW.trod at h ⊢
        split at hd
        · rename_i a b z hi
          rw [und_bool (hti _ _ hi) rfl] at h ⊢
          split at h
          case h_1 b heq => exact h
          all_goals first | (cases h; done) | (rename_i heq; cases heq; done)
        · rename_i k a b z hi
          rw [und_int (hti _ _ hi) rfl] at h ⊢
          split at h
          case h_2 k1 k2 q heq => obtain rfl : k = k1 := by cases heq; rfl
                                  exact h
          all_goals first | (cases h; done) | (rename_i heq; cases heq; done)
        · rename_i a b z hi
          rw [und_str (hti _ _ hi) rfl] at h ⊢
          split at h
          case h_4 s heq => exact h
          all_goals first | (cases h; done) | (rename_i heq; cases heq; done)
        · rename_i e a b z hi
          have hund := und_slice (hti _ _ hi) rfl
          rw [hund] at h ⊢
          simp only [Bool.and_eq_true] at hd
          obtain ⟨⟨_, hpos⟩, hde⟩ := hd
          split at hpos
          · rename_i i hie
            have hpos : 0 < i.size := by simpa using hpos
            have hsz := cellsOf_eq (hti _ _ hie)
            split at h
            case h_7 => exact h
            case h_8 e1 ad len cap heq =>
              obtain rfl : e = e1 := by cases heq; rfl
              split at h
              · rename_i hc
                obtain ⟨elems, h1, h⟩ := Option.bind_eq_some_iff.1 h
                obtain ⟨rest, h2, h⟩ := Option.map_eq_some_iff.1 h
                rw [if_pos rfl] at h2
                have hel : ∀ j y, ((W.cells? 0 (ad.add (j * P.cellsOf e)) (P.cellsOf e)).bind (DataW.trod enc P W 0 (fun _ => true) true n e)) = some y →
                    ((W.cells? 0 (ad.add (j * P.cellsOf e)) (P.cellsOf e)).bind (DataW.trod enc P W 0 (fun b => decide (b < W.heap.size)) true n e)) = some y ∧ ad.block < W.heap.size := by
                  intro j y hy
                  obtain ⟨c, hc1, hc2⟩ := Option.bind_eq_some_iff.1 hy
                  refine ⟨Option.bind_eq_some_iff.2 ⟨c, hc1, ih e hde n c y hc2⟩, ?_⟩
                  have := World.cells?_block hc1 (by rw [hsz]; exact hpos)
                  rwa [add_blk] at this
                have h1' := mapM_carry h1 (g := fun j => (W.cells? 0 (ad.add (j * P.cellsOf e)) (P.cellsOf e)).bind (DataW.trod enc P W 0 (fun b => decide (b < W.heap.size)) true n e)) (fun j y _ _ hy => (hel j y hy).1)
                have h2' := mapM_carry h2 (g := fun j => (W.cells? 0 (ad.add ((len + j) * P.cellsOf e)) (P.cellsOf e)).bind (DataW.trod enc P W 0 (fun b => decide (b < W.heap.size)) true n e)) (fun j y _ _ hy => (hel (len + j) y hy).1)
                show (if 0 ≤ ad.block ∧ len ≤ cap ∧ cap ≤ maxLen then _ else none) = some x
                rw [if_pos hc]
                refine Option.bind_eq_some_iff.2 ⟨elems, h1', Option.map_eq_some_iff.2 ⟨rest, ?_, h⟩⟩
                by_cases hb : ad.block < W.heap.size
                · rw [if_pos (by simpa using hb)]
                  exact h2'
                · rw [if_neg (by simpa using hb)]
                  cases rest with
                  | nil => rfl
                  | cons y ys =>
                    exfalso
                    have hl := mapM_some_length h2
                    have hlt : 0 < (List.range (cap - len)).length := by rw [← hl]; simp
                    have h0 := mapM_some_get h2 0 _ (List.getElem?_eq_getElem hlt)
                    exact hb (hel _ y h0).2
              · cases h
            all_goals first | (cases h; done) | (rename_i heq; cases heq; done)
          · cases hpos
        · rename_i fs s b z hi
          simp only [Bool.and_eq_true, List.all_eq_true] at hd
          obtain ⟨dsc, hund, hfit, _⟩ := (hti _ _ hi).und
          cases dsc with
          | struct fields =>
            have hfs : fields.toList.map (fun f => (f.offset, f.type)) = fs := hfit
            rw [hund] at h ⊢
            have key : (if cs.length = P.cellsOf t then (fields.toList.mapM fun f => DataW.trod enc P W 0 (fun _ => true) true n f.type ((cs.drop f.offset).take (P.cellsOf f.type))).map fun xs => (DataW.agg (xs.map (·.1)), xs.flatMap (·.2)) else none) = some x := by
              split at h
              case h_9 f1 heq =>
                obtain rfl : fields = f1 := by cases heq; rfl
                exact h
              all_goals first | (cases h; done) | (rename_i heq; cases heq; done) | (exfalso; simp_all; done)
            split at key
            · rename_i hl
              obtain ⟨xs, h1, h2⟩ := Option.map_eq_some_iff.1 key
              have h1' := mapM_carry h1 (g := fun f => DataW.trod enc P W 0 (fun b => decide (b < W.heap.size)) true n f.type ((cs.drop f.offset).take (P.cellsOf f.type)))
                (fun f y hf _ hy => ih f.type (hd.2 (f.offset, f.type) (by rw [← hfs]; exact List.mem_map.2 ⟨f, hf, rfl⟩)) n _ y hy)
              split
              case h_9 f1 heq =>
                obtain rfl : fields = f1 := by cases heq; rfl
                rw [if_pos hl]
                exact Option.map_eq_some_iff.2 ⟨xs, h1', h2⟩
              all_goals first | (rename_i heq; cases heq; done) | (exfalso; simp_all; done)
            · cases key
          | _ => exact hfit.elim
        · cases hd
  exact fun t hd n cs x h => .inl (main m t hd n cs x h)
theorem trod_after (hti : TabOk P ti) {W W' : World} (bel : Below W.heap.size W W') (m : Nat) {t : TypeId} (hd : dataT ti m t = true) {v : Value} {d : DataW H} {ps : List MemPlace} (h : DataW.Trod enc P W 0 (fun _ => true) true t v d ps) : DataW.Trod enc P W' 0 (fun b => decide (b < W.heap.size)) true t v d ps := by
  obtain ⟨n, hn0⟩ := h
  have hn := (trod_spare (K := W.heap.size) hti m t hd n _ _ hn0).resolve_right (fun h => h rfl)
  refine ⟨n, DataW.trod_carry n t _ _ hn fun p hp => ?_⟩
  have hlt := DataW.trod_lt n t _ _ hn p hp
  cases p with
  | cell b off => exact cell_same (a := ⟨b, off, none⟩) (bel.block b hlt)
  | map b => exact bel.block b hlt
/-- An argument that is a struct. -/
theorem arg_struct (hti : TabOk P ti) {t : TypeId} {fs : Array Field} (hu : P.underlying t = some (.struct fs)) (m : Nat) (hd : dataT ti m t = true) {r : Reach} {b0 : Nat} {v : Value} {d : DataW H} {ps : List MemPlace} (hval : Value.okWide P W r b0 t v)
    (h : DataW.Trod enc P W 0 (fun _ => true) true t v d ps) (hw : ∀ x ∈ d.weights P t, x ≤ B) : ∃ xs, M (bare W.heap.size) noSig W (.agg xs) v ∧ Shp ti B m t xs := by
  unfold Value.okWide at hval
  rw [hu] at hval
  obtain ⟨cs, rfl, _, _⟩ := hval
  obtain ⟨n, hn⟩ := h
  obtain ⟨xs, h1, h2⟩ := trod_M (base := bare W.heap.size) hti m t hd n _ d ps (fun _ h => h) hn hw
  refine ⟨xs, ?_, h2⟩
  have : cs = cs.toList.toArray := by simp
  rw [this]
  exact .agg xs cs.toList (by simpa [Value.cells] using h1.1) fun c x u hx hu => h1.2 c x u hx (by simpa [Value.cells] using hu)
end
end Go.Proofs.Ytjhfabimacljhaa.K
